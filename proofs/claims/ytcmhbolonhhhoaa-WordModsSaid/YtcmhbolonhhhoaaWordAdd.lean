/- The walks of number.add, sub, neg. -/
import Derived.Test.YtcmhbolonhhhoaaWordCmp
import Derived.Laws.Externs
namespace Go.Mun
open Go Go.RowKit Go.Proofs

theorem add64_run (x y c : Nat) (hc : c ≤ 1) (w : World) :
    (callFunc 74 #[.int .u64 x, .int .u64 y, .int .u64 c]).run Try.prog w =
      .ok (.value (.tuple #[.int .u64 (((x + y + c) % 2 ^ 64 : Nat) : Int), .int .u64 (((x + y + c) / 2 ^ 64 : Nat) : Int)])) w := by
  rw [run_callFunc_extern Try.func74 (by kernel_rfl) (by kernel_rfl) (by kernel_rfl) (e := add64Entry) (by kernel_rfl), run_add64 x y c (by omega) (by omega) (by omega) (by omega)]
  simp only [Result.andThen]
  congr 5 <;> omega
def sub64E : Array Value → Sem Value := fun args => do
  let (x, y, b) ← Extern.MathBitsCarry.three "Sub64" args
  pure (Extern.MathBitsCarry.pair ((x + Extern.MathBitsCarry.m64 - y - b) % Extern.MathBitsCarry.m64) (if x < y + b then 1 else 0))
theorem run_sub64E {P : Program} (x y b : Nat) (hb : b ≤ 1) (w : World) :
    (sub64E #[.int .u64 x, .int .u64 y, .int .u64 b]).run P w =
      .ok (.tuple #[.int .u64 (((x + 2 ^ 64 - y - b) % 2 ^ 64 : Nat) : Int), .int .u64 ((if x < y + b then 1 else 0 : Nat) : Int)]) w := by
  have : b = 0 ∨ b = 1 := by omega
  rcases this with rfl | rfl <;> rfl
theorem sub64_run (x y b : Nat) (hb : b ≤ 1) (w : World) :
    (callFunc 79 #[.int .u64 x, .int .u64 y, .int .u64 b]).run Try.prog w =
      .ok (.value (.tuple #[.int .u64 (((x + 2 ^ 64 - y - b) % 2 ^ 64 : Nat) : Int), .int .u64 ((if x < y + b then 1 else 0 : Nat) : Int)])) w := by
  rw [run_callFunc_extern Try.func79 (by kernel_rfl) (by kernel_rfl) (by kernel_rfl) (e := sub64E) (by kernel_rfl), run_sub64E x y b hb]
  rfl

theorem cell_set_far {w : World} {p q : Addr} {u v : Value} (hne : p.block ≠ q.block) (h : w.cell? p = some v) : (w.setCell q u).cell? p = some v := by
  rw [World.cell?_setCell_other _ _ _ _ (fun e => hne (by rw [e]))]
  exact h
theorem cell_set_far_drew {w : World} {p q : Addr} {u v : Value} (hne : p.block ≠ q.block) (h : w.cell? p = some v) : (w.setCell q u).drew.cell? p = some v := cell_set_far hne h
/-- sums, limb by limb -/
def sumLow (a b k : Nat) : Nat := a % 2 ^ (64 * k) + b % 2 ^ (64 * k)
theorem sum_step (a b k : Nat) : sumLow a b (k + 1) % 2 ^ (64 * (k + 1)) = sumLow a b k % 2 ^ (64 * k) + (limb a k + limb b k + sumLow a b k / 2 ^ (64 * k)) % 2 ^ 64 * 2 ^ (64 * k) ∧
    sumLow a b (k + 1) / 2 ^ (64 * (k + 1)) = (limb a k + limb b k + sumLow a b k / 2 ^ (64 * k)) / 2 ^ 64 := by
  have hp : 0 < 2 ^ (64 * k) := Nat.pow_pos (by decide)
  have e : sumLow a b (k + 1) = sumLow a b k % 2 ^ (64 * k) + (limb a k + limb b k + sumLow a b k / 2 ^ (64 * k)) * 2 ^ (64 * k) := by
    have h := Nat.div_add_mod (sumLow a b k) (2 ^ (64 * k))
    have h2 : sumLow a b (k + 1) = sumLow a b k + (limb a k + limb b k) * 2 ^ (64 * k) := by
      unfold sumLow
      rw [limb_split, limb_split, Nat.add_mul]
      omega
    rw [h2, Nat.add_mul _ (sumLow a b k / _), Nat.mul_comm (sumLow a b k / _)]
    omega
  rw [e]
  have hlt : sumLow a b k % 2 ^ (64 * k) < 2 ^ (64 * k) := Nat.mod_lt _ hp
  generalize sumLow a b k % 2 ^ (64 * k) = s at *
  generalize limb a k + limb b k + sumLow a b k / 2 ^ (64 * k) = t
  have hq : (s + t * 2 ^ (64 * k)) / 2 ^ (64 * k) = t := by rw [Nat.add_mul_div_right _ _ hp, Nat.div_eq_of_lt hlt, Nat.zero_add]
  rw [show 64 * (k + 1) = 64 * k + 64 from by omega, Nat.pow_add]
  generalize (2 : Nat) ^ (64 * k) = p at *
  refine ⟨?_, ?_⟩
  · rw [Nat.mod_mul, hq, Nat.add_mul_mod_self_right, Nat.mod_eq_of_lt hlt, Nat.mul_comm]
  · rw [← Nat.div_div_eq_div_mul, hq]
theorem sumLow_zero (a b : Nat) : sumLow a b 0 = 0 := by simp [sumLow, Nat.mod_one]
theorem sumLow_four {a b : Nat} (ha : a < 2 ^ 256) (hb : b < 2 ^ 256) : sumLow a b 4 = a + b := by
  unfold sumLow
  rw [Nat.mod_eq_of_lt ha, Nat.mod_eq_of_lt hb]
theorem carry_le {a b k : Nat} : sumLow a b k / 2 ^ (64 * k) ≤ 1 := by
  have hp : 0 < 2 ^ (64 * k) := Nat.pow_pos (by decide)
  have h1 : a % 2 ^ (64 * k) < 2 ^ (64 * k) := Nat.mod_lt _ hp
  have h2 : b % 2 ^ (64 * k) < 2 ^ (64 * k) := Nat.mod_lt _ hp
  unfold sumLow
  have : (a % 2 ^ (64 * k) + b % 2 ^ (64 * k)) / 2 ^ (64 * k) < 2 := by
    rw [Nat.div_lt_iff_lt_mul hp]; omega
  omega
/-- one limb more in a row of limbs -/
theorem limbsV_top {x k y : Nat} (hk : k < 4) (hx : x < 2 ^ (64 * k)) (hy : y < 2 ^ 64) : (limbsV x).setIfInBounds k (.int .u64 (y : Nat)) = limbsV (x + y * 2 ^ (64 * k)) := by
  rw [limbsV_tab, limbsV_tab, tab_set hk]
  exact tab_congr fun j _ => (limb_top hx hy j).symm

set_option maxRecDepth 100000 in
set_option maxHeartbeats 1000000 in
theorem add_any (a b : Nat) (w : World) (ha : a < 2 ^ 256) (hb : b < 2 ^ 256) : Calls Try.prog 51 #[.agg (limbsV a), .agg (limbsV b)] w fun e w' => e = .returned (.tuple #[.agg (limbsV ((a + b) % 2 ^ 256)), .int .u64 ((a + b) / 2 ^ 256 : Nat)]) ∧ Below w.heap.size w w' := by
  have hN := numTy
  have zN := zNum
  have HA := Lib.hid (fun k (hk : k < 4) => limbsV_get a hk)
  have HB := Lib.hid (fun k (hk : k < 4) => limbsV_get b hk)
  have H4 := Lib.hid (sumLow_four ha hb)
  have H0 := Lib.hid (sumLow_zero a b)
  have HST := Lib.hid (sum_step a b)
  have HC := Lib.hid (fun k => @carry_le a b k)
  clear ha hb
  generalize limbsV a = ca at *
  generalize limbsV b = cb at *
  have tok1 : True := trivial
  have tok3 : True := trivial
  go_enter Try.func51, Try.ntmps51
  go_wp2_with (first
    | ((with_reducible refine gd_box ?_); have _t := tok1; refine wpList_box_agg rfl _ (.tmp 0) rfl rfl ?_; clear tok1; intro w1 hx1 hb1 hl1)
    | ((with_reducible refine gd_box ?_); refine wpList_box_agg rfl _ (.tmp 1) rfl rfl ?_; intro w2 hx2 hb2 hl2)
    | ((with_reducible refine gd_alloc ?_); have _t := tok3; refine wpList_alloc_blk rfl 39 rfl zN ?_; clear tok3; intro w3 hx3 hb3 hl3)
    | ((with_reducible refine gd_alloc ?_); refine wpList_alloc_blk rfl 39 rfl zN ?_; intro w4 hx4 hb4 hl4)
    | fail)
  have hx1' := ((hx1.ext hb2).ext hb3).ext hb4
  have hx2' := (hx2.ext hb3).ext hb4
  have hx3' := hx3.ext hb4
  have hB := below_step (below_step (below_step hb1 hb2) hb3) hb4
  have hg1 := hx1.lt
  have hg2 := hx2.lt
  have hg3 := hx3.lt
  clear hx1 hx2 hx3 hb1 hb2 hb3 hb4
  go_loopw [9, 7] (fun i c wr => ∃ k : Nat, k ≤ 4 ∧ i = .int .i64 k ∧ c = .int .u64 (sumLow a b k / 2 ^ (64 * k) : Nat) ∧ Blk wr w3.heap.size 39 (limbsV (sumLow a b k % 2 ^ (64 * k))) ∧ Blk wr w2.heap.size 39 (limbsV 0) ∧
    Blk wr w.heap.size 39 ca ∧ Blk wr w1.heap.size 39 cb ∧ Below w.heap.size w wr) (fun i _ _ => 4 - (intOf i).toNat)
  case atStart => exact ⟨0, by omega, rfl, by rw [H0.out]; rfl, by rw [H0.out]; exact hx4, hx3', hx1', hx2', hB⟩
  case round =>
    obtain ⟨k, hk, rfl, rfl, hy4, hy3, hy1, hy2, hBr⟩ := hrel
    by_cases hlt : k < 4
    · have hcA := hy1.cellv (i := k) (HA.out k hlt)
      have hcB := hy2.cellv (i := k) (HB.out k hlt)
      have hst := HST.out k
      have hc := HC.out k
      have hlo : sumLow a b k % 2 ^ (64 * k) < 2 ^ (64 * k) := Nat.mod_lt _ (Nat.pow_pos (by decide))
      have hsz : (limbsV (sumLow a b k % 2 ^ (64 * k))).size = 4 := rfl
      have hadd := add64_run (limb a k) (limb b k) (sumLow a b k / 2 ^ (64 * k)) hc
      have HT := Lib.hid (limbsV_top hlt hlo (Nat.mod_lt (limb a k + limb b k + sumLow a b k / 2 ^ (64 * k)) (show 0 < 2 ^ 64 by decide)))
      rw [← hst.1] at HT
      rw [← hst.2] at hadd
      have b1 : (k : Int) < 4 := by omega
      have b0 : (0 : Int) ≤ (k : Int) := by omega
      clear hlo hst
      generalize (limb a k + limb b k + sumLow a b k / 2 ^ (64 * k)) % 2 ^ 64 = y at *
      generalize sumLow a b k / 2 ^ (64 * k) = c at *
      generalize limbsV (sumLow a b k % 2 ^ (64 * k)) = co at *
      generalize limb a k = la at *
      generalize limb b k = lb at *
      generalize hd : sumLow a b (k + 1) / 2 ^ (64 * (k + 1)) = d at *
      have HD := Lib.hid hd
      have HSZ := Lib.hid hsz
      clear hd hc hsz
      go_wp2
      obtain ⟨old, hold⟩ : ∃ v, co[k]? = some v := ⟨co[k]'(by rw [HSZ.out]; exact hlt), Array.getElem?_eq_getElem _⟩
      have hcO := hy4.cellv hold
      have hfO := hy4.frozen k
      go_region_held3 (fun w' => w'.cell? ⟨w.heap.size, k, none⟩ = some (.int .u64 (la : Nat)) ∧ w'.cell? ⟨w1.heap.size, k, none⟩ = some (.int .u64 (lb : Nat))) (first | (go_keep; done) | (exact ⟨cell_set_far_drew (by simp; omega) hcA, cell_set_far_drew (by simp; omega) hcB⟩)) (fail)
      have hg5 := grownBy_setCell wr.drew ⟨w3.heap.size, k, none⟩ (.int .u64 (y : Nat))
      have hx5 : Blk (wr.setCell ⟨w3.heap.size, k, none⟩ (.int .u64 (y : Nat))).drew w3.heap.size 39 (co.setIfInBounds k (.int .u64 (y : Nat))) := hy4.set_ k _
      rw [HT.out] at hx5
      have hy3' := hy3.drew.grown hg5 (by simp; omega)
      have hy2' := hy2.drew.grown hg5 (by simp; omega)
      have hy1' := hy1.drew.grown hg5 (by simp; omega)
      have hB5 := below_blk hBr.drew hBr.size hg5 (by simp; omega)
      rw [show (wr.setCell ⟨w3.heap.size, k, none⟩ (.int .u64 (y : Nat))).drew = wr.drew.setCell ⟨w3.heap.size, k, none⟩ (.int .u64 (y : Nat)) from rfl] at hx5 ⊢
      generalize wr.drew.setCell ⟨w3.heap.size, k, none⟩ (.int .u64 (y : Nat)) = w5 at *
      go_wp2
      go_roundw
      case rel => exact ⟨k + 1, by omega, by go_num, by rw [HD.out], hx5, hy3', hy1', hy2', hB5⟩
      case measure => (simp [intOf]; try omega)
    · obtain rfl : k = 4 := by omega
      rw [H4.out]
      rw [H4.out] at hy4
      have H1 := Lib.hid (show oneAll (limbsV ((a + b) % 2 ^ (64 * 4))).toList = true from rfl)
      have HS := Lib.hid (show (limbsV ((a + b) % 2 ^ (64 * 4))).size = 4 from rfl)
      generalize hcs : limbsV ((a + b) % 2 ^ (64 * 4)) = cs at *
      generalize hcar : (a + b) / 2 ^ (64 * 4) = car at *
      have HE := Lib.hid hcs
      have HK := Lib.hid hcar
      clear hcs hcar
      go_wp2_with (first
        | ((with_reducible refine gd_load ?_); refine wpList_load_blk rfl 39 (.tmp 6) rfl hy4 (by rw [HS.out]; exact hN) rfl ?_)
        | ((with_reducible refine gd_store ?_); refine wpList_store_all rfl 39 (.tmp 4) (.tmp 26) rfl cs hy3 (by rw [HS.out]; exact hN) (by rw [HS.out]; rfl) H1.out (by rfl) (by rfl) ?_; intro w9 hx9 hg9; have hB9 := below_blk hBr hBr.size hg9 (by omega))
        | fail)
      exact bodyPost_ret (results_blk2 (cs := cs) rfl (by rw [HS.out]; exact hN) hx9 rfl rfl) rfl ⟨by show Ending.returned (.tuple #[.agg cs, .int .u64 (car : Nat)]) = _; rw [← HE.out, ← HK.out], hB9⟩
end Go.Mun
