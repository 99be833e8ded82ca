/- The walks of number.sub, neg, signed, abs. -/
import Derived.Test.YtcmhbolonhhhoaaWordAdd
namespace Go.Mun
open Go Go.RowKit Go.Proofs

/-- differences, limb by limb -/
def difLow (a b k : Nat) : Nat := (a % 2 ^ (64 * k) + 2 ^ (64 * k) - b % 2 ^ (64 * k)) % 2 ^ (64 * k)
def borLow (a b k : Nat) : Nat := if a % 2 ^ (64 * k) < b % 2 ^ (64 * k) then 1 else 0
theorem borLow_le {a b k : Nat} : borLow a b k ≤ 1 := by unfold borLow; split <;> omega
theorem difLow_zero (a b : Nat) : difLow a b 0 = 0 := by simp [difLow, Nat.mod_one]
theorem borLow_zero (a b : Nat) : borLow a b 0 = 0 := by simp [borLow, Nat.mod_one]
theorem difLow_four {a b : Nat} (ha : a < 2 ^ 256) (hb : b < 2 ^ 256) : difLow a b 4 = (a + 2 ^ 256 - b) % 2 ^ 256 := by
  unfold difLow
  rw [show 64 * 4 = 256 from rfl, Nat.mod_eq_of_lt ha, Nat.mod_eq_of_lt hb]
theorem dif_plain {A B x y P Q br : Nat} (hA : A < P) (hB : B < P) (_hx : x < Q) (hy : y < Q) (hbr : br = if A < B then 1 else 0) :
    (A + x * P + P * Q - (B + y * P)) % (P * Q) = (A + P - B) % P + (x + Q - y - br) % Q * P ∧ (if A + x * P < B + y * P then 1 else 0) = (if x < y + br then 1 else 0) := by
  have hP : 0 < P := by omega
  have hD : (A + P - B) % P + B = A + br * P := by
    rw [hbr]
    by_cases c : A < B
    · rw [if_pos c, Nat.mod_eq_of_lt (by omega)]; omega
    · rw [if_neg c, show A + P - B = (A - B) + P from by omega, Nat.add_mod_right, Nat.mod_eq_of_lt (by omega)]; omega
  have hDlt : (A + P - B) % P < P := Nat.mod_lt _ hP
  have hbr1 : br ≤ 1 := by rw [hbr]; split <;> omega
  generalize (A + P - B) % P = D at *
  obtain ⟨t, ht⟩ : ∃ t, t = x + Q - y - br := ⟨_, rfl⟩
  have ht2 : x + Q = t + y + br := by omega
  have e1 : x * P + Q * P = t * P + y * P + br * P := by rw [← Nat.add_mul, ht2, Nat.add_mul, Nat.add_mul]
  have e2 : A + x * P + P * Q - (B + y * P) = D + t * P := by rw [Nat.mul_comm P Q]; omega
  refine ⟨?_, ?_⟩
  · rw [e2, ← ht, Nat.mod_mul, Nat.add_mul_mod_self_right, Nat.mod_eq_of_lt hDlt, Nat.add_mul_div_right _ _ hP, Nat.div_eq_of_lt hDlt, Nat.zero_add, Nat.mul_comm]
  · by_cases c : x < y + br
    · rw [if_pos c, if_pos]
      have : (x + 1) * P ≤ (y + br) * P := Nat.mul_le_mul_right _ c
      rw [Nat.add_mul, Nat.add_mul, Nat.one_mul] at this
      omega
    · rw [if_neg c, if_neg]
      have : (y + br) * P ≤ x * P := Nat.mul_le_mul_right _ (by omega)
      rw [Nat.add_mul] at this
      omega
theorem dif_step (a b k : Nat) : difLow a b (k + 1) = difLow a b k + (limb a k + 2 ^ 64 - limb b k - borLow a b k) % 2 ^ 64 * 2 ^ (64 * k) ∧
    borLow a b (k + 1) = if limb a k < limb b k + borLow a b k then 1 else 0 := by
  have hp : 0 < 2 ^ (64 * k) := Nat.pow_pos (by decide)
  have h := dif_plain (A := a % 2 ^ (64 * k)) (B := b % 2 ^ (64 * k)) (x := limb a k) (y := limb b k) (P := 2 ^ (64 * k)) (Q := 2 ^ 64) (br := borLow a b k) (Nat.mod_lt _ hp) (Nat.mod_lt _ hp) (limb_lt _ _) (limb_lt _ _) rfl
  unfold difLow
  rw [limb_split a, limb_split b, show (2 : Nat) ^ (64 * (k + 1)) = 2 ^ (64 * k) * 2 ^ 64 from by rw [← Nat.pow_add]; congr 1]
  refine ⟨h.1, ?_⟩
  rw [← h.2]
  unfold borLow
  rw [limb_split a, limb_split b]

set_option maxRecDepth 100000 in
set_option maxHeartbeats 1000000 in
theorem sub_any (a b : Nat) (w : World) (ha : a < 2 ^ 256) (hb : b < 2 ^ 256) : Calls Try.prog 68 #[.agg (limbsV a), .agg (limbsV b)] w fun e w' => e = .returned (.agg (limbsV ((a + 2 ^ 256 - b) % 2 ^ 256))) ∧ Below w.heap.size w w' := by
  have hN := numTy
  have zN := zNum
  have HA := Lib.hid (fun k (hk : k < 4) => limbsV_get a hk)
  have HB := Lib.hid (fun k (hk : k < 4) => limbsV_get b hk)
  have H4 := Lib.hid (difLow_four ha hb)
  have H0 := Lib.hid (difLow_zero a b)
  have H0b := Lib.hid (borLow_zero a b)
  have HST := Lib.hid (dif_step a b)
  have HC := Lib.hid (fun k => @borLow_le a b k)
  clear ha hb
  generalize limbsV a = ca at *
  generalize limbsV b = cb at *
  have tok1 : True := trivial
  have tok3 : True := trivial
  go_enter Try.func68, Try.ntmps68
  go_wp2_with (first
    | ((with_reducible refine gd_box ?_); have _t := tok1; refine wpList_box_agg rfl _ (.tmp 0) rfl rfl ?_; clear tok1; intro w1 hx1 hb1 hl1)
    | ((with_reducible refine gd_box ?_); refine wpList_box_agg rfl _ (.tmp 1) rfl rfl ?_; intro w2 hx2 hb2 hl2)
    | ((with_reducible refine gd_alloc ?_); have _t := tok3; refine wpList_alloc_blk rfl 39 rfl zN ?_; clear tok3; intro w3 hx3 hb3 hl3)
    | ((with_reducible refine gd_alloc ?_); refine wpList_alloc_blk rfl 39 rfl zN ?_; intro w4 hx4 hb4 hl4)
    | fail)
  have hx1' := ((hx1.ext hb2).ext hb3).ext hb4
  have hx2' := (hx2.ext hb3).ext hb4
  have hx3' := hx3.ext hb4
  have hB := below_step (below_step (below_step hb1 hb2) hb3) hb4
  have hg1 := hx1.lt
  have hg2 := hx2.lt
  have hg3 := hx3.lt
  clear hx1 hx2 hx3 hb1 hb2 hb3 hb4
  go_loopw [8, 6] (fun i c wr => ∃ k : Nat, k ≤ 4 ∧ i = .int .i64 k ∧ c = .int .u64 (borLow a b k : Nat) ∧ Blk wr w3.heap.size 39 (limbsV (difLow a b k)) ∧ Blk wr w2.heap.size 39 (limbsV 0) ∧
    Blk wr w.heap.size 39 ca ∧ Blk wr w1.heap.size 39 cb ∧ Below w.heap.size w wr) (fun i _ _ => 4 - (intOf i).toNat)
  case atStart => exact ⟨0, by omega, rfl, by rw [H0b.out]; rfl, by rw [H0.out]; exact hx4, hx3', hx1', hx2', hB⟩
  case round =>
    obtain ⟨k, hk, rfl, rfl, hy4, hy3, hy1, hy2, hBr⟩ := hrel
    by_cases hlt : k < 4
    · have hcA := hy1.cellv (i := k) (HA.out k hlt)
      have hcB := hy2.cellv (i := k) (HB.out k hlt)
      have hst := HST.out k
      have hc := HC.out k
      have hlo : difLow a b k < 2 ^ (64 * k) := Nat.mod_lt _ (Nat.pow_pos (by decide))
      have hsz : (limbsV (difLow a b k)).size = 4 := rfl
      have hadd := sub64_run (limb a k) (limb b k) (borLow a b k) hc
      have HT := Lib.hid (limbsV_top hlt hlo (Nat.mod_lt (limb a k + 2 ^ 64 - limb b k - borLow a b k) (show 0 < 2 ^ 64 by decide)))
      rw [← hst.1] at HT
      rw [← hst.2] at hadd
      have b1 : (k : Int) < 4 := by omega
      have b0 : (0 : Int) ≤ (k : Int) := by omega
      clear hlo hst
      generalize (limb a k + 2 ^ 64 - limb b k - borLow a b k) % 2 ^ 64 = y at *
      generalize borLow a b k = c at *
      generalize limbsV (difLow a b k) = co at *
      generalize limb a k = la at *
      generalize limb b k = lb at *
      generalize hd : borLow a b (k + 1) = d at *
      have HD := Lib.hid hd
      have HSZ := Lib.hid hsz
      clear hd hc hsz
      go_wp2
      obtain ⟨old, hold⟩ : ∃ v, co[k]? = some v := ⟨co[k]'(by rw [HSZ.out]; exact hlt), Array.getElem?_eq_getElem _⟩
      have hcO := hy4.cellv hold
      have hfO := hy4.frozen k
      go_region_held3 (fun w' => w'.cell? ⟨w.heap.size, k, none⟩ = some (.int .u64 (la : Nat)) ∧ w'.cell? ⟨w1.heap.size, k, none⟩ = some (.int .u64 (lb : Nat))) (first | (go_keep; done) | (exact ⟨cell_set_far_drew (by simp; omega) hcA, cell_set_far_drew (by simp; omega) hcB⟩)) (fail)
      have hg5 := grownBy_setCell wr.drew ⟨w3.heap.size, k, none⟩ (.int .u64 (y : Nat))
      have hx5 : Blk (wr.setCell ⟨w3.heap.size, k, none⟩ (.int .u64 (y : Nat))).drew w3.heap.size 39 (co.setIfInBounds k (.int .u64 (y : Nat))) := hy4.set_ k _
      rw [HT.out] at hx5
      have hy3' := hy3.drew.grown hg5 (by simp; omega)
      have hy2' := hy2.drew.grown hg5 (by simp; omega)
      have hy1' := hy1.drew.grown hg5 (by simp; omega)
      have hB5 := below_blk hBr.drew hBr.size hg5 (by simp; omega)
      rw [show (wr.setCell ⟨w3.heap.size, k, none⟩ (.int .u64 (y : Nat))).drew = wr.drew.setCell ⟨w3.heap.size, k, none⟩ (.int .u64 (y : Nat)) from rfl] at hx5 ⊢
      generalize wr.drew.setCell ⟨w3.heap.size, k, none⟩ (.int .u64 (y : Nat)) = w5 at *
      go_wp2
      go_roundw
      case rel => exact ⟨k + 1, by omega, by go_num, by rw [HD.out], hx5, hy3', hy1', hy2', hB5⟩
      case measure => (simp [intOf]; try omega)
    · obtain rfl : k = 4 := by omega
      rw [H4.out] at hy4
      have H1 := Lib.hid (show oneAll (limbsV ((a + 2 ^ 256 - b) % 2 ^ 256)).toList = true from rfl)
      have HS := Lib.hid (show (limbsV ((a + 2 ^ 256 - b) % 2 ^ 256)).size = 4 from rfl)
      generalize borLow a b 4 = car at *
      generalize hcs : limbsV ((a + 2 ^ 256 - b) % 2 ^ 256) = cs at *
      have HE := Lib.hid hcs
      clear hcs
      go_wp2_with (first
        | ((with_reducible refine gd_load ?_); refine wpList_load_blk rfl 39 (.tmp 5) rfl hy4 (by rw [HS.out]; exact hN) rfl ?_)
        | ((with_reducible refine gd_store ?_); refine wpList_store_all rfl 39 (.tmp 4) (.tmp 25) rfl cs hy3 (by rw [HS.out]; exact hN) (by rw [HS.out]; rfl) H1.out (by rfl) (by rfl) ?_; intro w9 hx9 hg9; have hB9 := below_blk hBr hBr.size hg9 (by omega))
        | fail)
      exact bodyPost_ret (results_blk1 (cs := cs) rfl (by rw [HS.out]; exact hN) hx9 rfl) rfl ⟨by rw [HE.out], hB9⟩

def negN (n : Nat) : Nat := (2 ^ 256 - n) % 2 ^ 256
theorem negN_lt (n : Nat) : negN n < 2 ^ 256 := Nat.mod_lt _ (by decide)
def absN (n : Nat) : Nat := if 2 ^ 255 ≤ n then negN n else n
theorem absN_lt {n : Nat} (h : n < 2 ^ 256) : absN n < 2 ^ 256 := by unfold absN; split; exact negN_lt n; exact h

set_option maxRecDepth 100000 in
set_option maxHeartbeats 1000000 in
theorem neg_any (n : Nat) (w : World) (hn : n < 2 ^ 256) : Calls Try.prog 80 #[.agg (limbsV n)] w fun e w' => e = .returned (.agg (limbsV (negN n))) ∧ Below w.heap.size w w' := by
  have hN := numTy
  have zN := zNum
  have HSub := Lib.hid (fun w => sub_any 0 n w (by decide) hn)
  have HS := Lib.hid (limbsV_size n)
  have HS2 := Lib.hid (limbsV_size (negN n))
  have H1 := Lib.hid (limbsV_one (negN n))
  clear hn
  rw [show (0 + 2 ^ 256 - n) % 2 ^ 256 = negN n from by rw [Nat.zero_add]; rfl] at HSub
  generalize limbsV n = cs at *
  generalize limbsV (negN n) = cr at *
  go_enter Try.func80, Try.ntmps80
  go_wp2_with (first
    | ((with_reducible refine gd_box ?_); refine wpList_box_agg rfl _ (.tmp 0) rfl rfl ?_; intro w1 hx1 hb1 hl1)
    | ((with_reducible refine gd_alloc ?_); refine wpList_alloc_blk rfl 39 rfl zN ?_; intro w2 hx2 hb2 hl2)
    | ((with_reducible refine gd_load ?_); refine wpList_load_blk rfl 39 (.tmp 1) rfl (hx1.ext hb2) (by rw [HS.out]; exact hN) rfl ?_)
    | (go_at_call 68; refine (HSub.out _).mono ?_; rintro e w3 ⟨rfl, hb3⟩)
    | ((with_reducible refine gd_store ?_); refine wpList_store_all rfl 39 (.tmp 2) (.tmp 5) rfl cr (hx2.ext hb3) (by rw [HS2.out]; exact hN) (by rw [HS2.out]; rfl) H1.out (by rfl) (by rfl) ?_; intro w9 hx9 hg9)
    | fail)
  have hB := below_step (below_step hb1 hb2) hb3
  have hB9 := below_blk hB hB.size hg9 (by have := hx1.lt; omega)
  exact bodyPost_ret (results_blk1 (cs := cr) rfl (by rw [HS2.out]; exact hN) hx9 rfl) rfl ⟨rfl, hB9⟩

set_option maxRecDepth 100000 in
set_option maxHeartbeats 1000000 in
theorem abs_any (n : Nat) (w : World) (hn : n < 2 ^ 256) : Calls Try.prog 70 #[.agg (limbsV n)] w fun e w' => e = .returned (.tuple #[.agg (limbsV (absN n)), .bool (decide (2 ^ 255 ≤ n))]) ∧ Below w.heap.size w w' := by
  have hN := numTy
  have zN := zNum
  have HM := Lib.hid (fun w => minus_any n w hn)
  have HSub := Lib.hid (fun w => neg_any n w hn)
  have HS := Lib.hid (limbsV_size n)
  have H0 := Lib.hid (limbsV_one n)
  have HS2 := Lib.hid (limbsV_size (negN n))
  have H1 := Lib.hid (limbsV_one (negN n))
  clear hn
  by_cases c : 2 ^ 255 ≤ n
  · rw [show absN n = negN n from if_pos c, decide_eq_true c]
    rw [decide_eq_true c] at HM
    clear c
    generalize limbsV n = cs at *
    generalize limbsV (negN n) = cr at *
    go_enter Try.func70, Try.ntmps70
    have tok1 : True := trivial
    go_wp2_with (first
      | ((with_reducible refine gd_box ?_); refine wpList_box_agg rfl _ (.tmp 0) rfl rfl ?_; intro w1 hx1 hb1 hl1)
      | ((with_reducible refine gd_alloc ?_); refine wpList_alloc_blk rfl 39 rfl zN ?_; intro w2 hx2 hb2 hl2)
      | ((with_reducible refine gd_load ?_); have _t := tok1; refine wpList_load_blk rfl 39 (.tmp 1) rfl (hx1.ext hb2) (by rw [HS.out]; exact hN) rfl ?_; clear tok1)
      | (go_at_call 48; refine (HM.out _).mono ?_; rintro e w3 ⟨rfl, hb3⟩)
      | ((with_reducible refine gd_load ?_); refine wpList_load_blk rfl 39 (.tmp 1) rfl ((hx1.ext hb2).ext hb3) (by rw [HS.out]; exact hN) rfl ?_)
      | (go_at_call 80; refine (HSub.out _).mono ?_; rintro e w4 ⟨rfl, hb4⟩)
      | ((with_reducible refine gd_store ?_); refine wpList_store_all rfl 39 (.tmp 2) (.tmp 7) rfl cr ((hx2.ext hb3).ext hb4) (by rw [HS2.out]; exact hN) (by rw [HS2.out]; rfl) H1.out (by rfl) (by rfl) ?_; intro w9 hx9 hg9)
      | fail)
    have hB := below_step (below_step (below_step hb1 hb2) hb3) hb4
    have hB9 := below_blk hB hB.size hg9 (by have := hx1.lt; omega)
    exact bodyPost_ret (results_blk2 (cs := cr) rfl (by rw [HS2.out]; exact hN) hx9 rfl rfl) rfl ⟨rfl, hB9⟩
  · rw [show absN n = n from if_neg c, decide_eq_false c]
    rw [decide_eq_false c] at HM
    clear c
    generalize limbsV n = cs at *
    generalize limbsV (negN n) = cr at *
    go_enter Try.func70, Try.ntmps70
    have tok1 : True := trivial
    go_wp2_with (first
      | ((with_reducible refine gd_box ?_); refine wpList_box_agg rfl _ (.tmp 0) rfl rfl ?_; intro w1 hx1 hb1 hl1)
      | ((with_reducible refine gd_alloc ?_); refine wpList_alloc_blk rfl 39 rfl zN ?_; intro w2 hx2 hb2 hl2)
      | ((with_reducible refine gd_load ?_); have _t := tok1; refine wpList_load_blk rfl 39 (.tmp 1) rfl (hx1.ext hb2) (by rw [HS.out]; exact hN) rfl ?_; clear tok1)
      | (go_at_call 48; refine (HM.out _).mono ?_; rintro e w3 ⟨rfl, hb3⟩)
      | ((with_reducible refine gd_load ?_); refine wpList_load_blk rfl 39 (.tmp 1) rfl ((hx1.ext hb2).ext hb3) (by rw [HS.out]; exact hN) rfl ?_)
      | ((with_reducible refine gd_store ?_); refine wpList_store_all rfl 39 (.tmp 2) (.tmp 8) rfl cs (hx2.ext hb3) (by rw [HS.out]; exact hN) (by rw [HS.out]; rfl) H0.out (by rfl) (by rfl) ?_; intro w9 hx9 hg9)
      | fail)
    have hB := below_step (below_step hb1 hb2) hb3
    have hB9 := below_blk hB hB.size hg9 (by have := hx1.lt; omega)
    exact bodyPost_ret (results_blk2 (cs := cs) rfl (by rw [HS.out]; exact hN) hx9 rfl rfl) rfl ⟨rfl, hB9⟩

set_option maxRecDepth 100000 in
set_option maxHeartbeats 1000000 in
theorem signed_any (n : Nat) (m : Bool) (w : World) (hn : n < 2 ^ 256) : Calls Try.prog 71 #[.agg (limbsV n), .bool m] w fun e w' => e = .returned (.agg (limbsV (if m then negN n else n))) ∧ Below w.heap.size w w' := by
  have hN := numTy
  have zN := zNum
  have HSub := Lib.hid (fun w => neg_any n w hn)
  have HS := Lib.hid (limbsV_size n)
  have H0 := Lib.hid (limbsV_one n)
  have HS2 := Lib.hid (limbsV_size (negN n))
  have H1 := Lib.hid (limbsV_one (negN n))
  clear hn
  cases m
  · simp only [Bool.false_eq_true, if_false]
    generalize limbsV n = cs at *
    generalize limbsV (negN n) = cr at *
    go_enter Try.func71, Try.ntmps71
    go_wp2_with (first
      | ((with_reducible refine gd_box ?_); refine wpList_box_agg rfl _ (.tmp 0) rfl rfl ?_; intro w1 hx1 hb1 hl1)
      | ((with_reducible refine gd_alloc ?_); refine wpList_alloc_blk rfl 39 rfl zN ?_; intro w2 hx2 hb2 hl2)
      | ((with_reducible refine gd_load ?_); refine wpList_load_blk rfl 39 (.tmp 2) rfl (hx1.ext hb2) (by rw [HS.out]; exact hN) rfl ?_)
      | ((with_reducible refine gd_store ?_); refine wpList_store_all rfl 39 (.tmp 4) (.tmp 8) rfl cs hx2 (by rw [HS.out]; exact hN) (by rw [HS.out]; rfl) H0.out (by rfl) (by rfl) ?_; intro w9 hx9 hg9)
      | fail)
    have hB := below_step hb1 hb2
    have hB9 := below_blk hB hB.size hg9 (by have := hx1.lt; omega)
    exact bodyPost_ret (results_blk1 (cs := cs) rfl (by rw [HS.out]; exact hN) hx9 rfl) rfl ⟨rfl, hB9⟩
  · simp only [if_true]
    generalize limbsV n = cs at *
    generalize limbsV (negN n) = cr at *
    go_enter Try.func71, Try.ntmps71
    go_wp2_with (first
      | ((with_reducible refine gd_box ?_); refine wpList_box_agg rfl _ (.tmp 0) rfl rfl ?_; intro w1 hx1 hb1 hl1)
      | ((with_reducible refine gd_alloc ?_); refine wpList_alloc_blk rfl 39 rfl zN ?_; intro w2 hx2 hb2 hl2)
      | ((with_reducible refine gd_load ?_); refine wpList_load_blk rfl 39 (.tmp 2) rfl (hx1.ext hb2) (by rw [HS.out]; exact hN) rfl ?_)
      | (go_at_call 80; refine (HSub.out _).mono ?_; rintro e w4 ⟨rfl, hb4⟩)
      | ((with_reducible refine gd_store ?_); refine wpList_store_all rfl 39 (.tmp 4) (.tmp 7) rfl cr (hx2.ext hb4) (by rw [HS2.out]; exact hN) (by rw [HS2.out]; rfl) H1.out (by rfl) (by rfl) ?_; intro w9 hx9 hg9)
      | fail)
    have hB := below_step (below_step hb1 hb2) hb4
    have hB9 := below_blk hB hB.size hg9 (by have := hx1.lt; omega)
    exact bodyPost_ret (results_blk1 (cs := cr) rfl (by rw [HS2.out]; exact hN) hx9 rfl) rfl ⟨rfl, hB9⟩
end Go.Mun
