/- The walk of word.product. -/
import Derived.Test.YtcmhbolonhhhoaaWordMul
import Derived.Test.YtcmhbolonhhhoaaProdPlain
namespace Go.Mun
open Go Go.RowKit Go.Proofs

theorem arrTy8 : AggTy Try.prog 54 8 := ⟨⟨_, Try.underlying54, rfl⟩, by kernel_rfl⟩

set_option maxRecDepth 100000 in
set_option maxHeartbeats 4000000 in
theorem product_any (n m : Nat) (w : World) (hn : n < 2 ^ 256) (hm : m < 2 ^ 256) : Calls Try.prog 57 #[.agg (limbsV n), .agg (limbsV m)] w fun e w' => e = .returned (.agg (tab .u64 8 (limb (n * m)))) ∧ Below w.heap.size w w' := by
  have hN := arrTy8
  have z8 : (Try.prog.info? 54).bind (·.zero) = some (.agg (tab .u64 8 fun _ => 0)) := by kernel_rfl
  have HA := Lib.hid (fun k (hk : k < 4) => limbsV_get n hk)
  have HB := Lib.hid (fun k (hk : k < 4) => limbsV_get m hk)
  have HN := Lib.hid hn
  have HM := Lib.hid hm
  have HZ := Lib.hid (show tab .u64 8 (fun _ => 0) = tab .u64 8 (limb (n % 2 ^ (64 * 0) * m)) from tab_congr fun i _ => by simp [limb, Nat.mod_one])
  clear hn hm
  generalize limbsV n = ca at *
  generalize limbsV m = cb at *
  have tok1 : True := trivial
  have tok3 : True := trivial
  go_enter Try.func57, Try.ntmps57
  go_wp2_with (first
    | ((with_reducible refine gd_box ?_); have _t := tok1; refine wpList_box_agg rfl _ (.tmp 0) rfl rfl ?_; clear tok1; intro w1 hx1 hb1 hl1)
    | ((with_reducible refine gd_box ?_); refine wpList_box_agg rfl _ (.tmp 1) rfl rfl ?_; intro w2 hx2 hb2 hl2)
    | ((with_reducible refine gd_alloc ?_); have _t := tok3; refine wpList_alloc_blk rfl 54 rfl z8 ?_; clear tok3; intro w3 hx3 hb3 hl3)
    | ((with_reducible refine gd_alloc ?_); refine wpList_alloc_blk rfl 54 rfl z8 ?_; intro w4 hx4 hb4 hl4)
    | fail)
  have hx1' := ((hx1.ext hb2).ext hb3).ext hb4
  have hx2' := (hx2.ext hb3).ext hb4
  have hx3' := hx3.ext hb4
  have hB := below_step (below_step (below_step hb1 hb2) hb3) hb4
  have hg1 := hx1.lt
  have hg2 := hx2.lt
  have hg3 := hx3.lt
  clear hx1 hx2 hx3 hb1 hb2 hb3 hb4
  rw [show (Value.agg (tab .u64 8 fun _ => 0)).cells = tab .u64 8 fun _ => 0 from rfl] at hx3' hx4
  go_loopw [12] (fun i wr => ∃ k : Nat, k ≤ 4 ∧ i = .int .i64 k ∧ Blk wr w3.heap.size 54 (tab .u64 8 (limb (n % 2 ^ (64 * k) * m))) ∧ Blk wr w2.heap.size 54 (tab .u64 8 fun _ => 0) ∧
    Blk wr w.heap.size 39 ca ∧ Blk wr w1.heap.size 39 cb ∧ Below w.heap.size w wr) (fun i _ => 4 - (intOf i).toNat)
  case atStart => exact ⟨0, by omega, rfl, by rw [← HZ.out]; exact hx4, hx3', hx1', hx2', hB⟩
  case round =>
    obtain ⟨k, hk, rfl, hy4, hy3, hy1, hy2, hBr⟩ := hrel
    by_cases hlt : k < 4
    · have hcA := hy1.cellv (i := k) (HA.out k hlt)
      have b1 : (k : Int) < 4 := by omega
      have b0 : (0 : Int) ≤ (k : Int) := by omega
      go_wp2
      go_loopw [15, 7] (fun j c wx => ∃ j' c' O : Nat, j' ≤ 4 ∧ j = .int .i64 j' ∧ c = .int .u64 (c' : Nat) ∧ Hid (MulAt n m k j' O c') ∧ Blk wx w3.heap.size 54 (tab .u64 8 (limb O)) ∧ Blk wx w2.heap.size 54 (tab .u64 8 fun _ => 0) ∧
        Blk wx w.heap.size 39 ca ∧ Blk wx w1.heap.size 39 cb ∧ Below w.heap.size w wx) (fun j _ _ => 4 - (intOf j).toNat)
      case atStart => exact ⟨0, 0, _, by omega, rfl, rfl, Lib.hid (mulAt_start HM.out), hy4, hy3, hy1, hy2, hBr⟩
      case round =>
        obtain ⟨j, c, O, hj, rfl, rfl, HO, hz4, hz3, hz1, hz2, hBx⟩ := hrel
        clear hy4 hy3 hy1 hy2 hBr hcA
        have hcA := hz1.cellv (i := k) (HA.out k hlt)
        by_cases hlj : j < 4
        · have hcB := hz2.cellv (i := j) (HB.out j hlj)
          have d1 : (j : Int) < 4 := by omega
          have d0 : (0 : Int) ≤ (j : Int) := by omega
          have hp8 : k + j < 8 := by omega
          obtain ⟨O', HO1, HO2⟩ := mulAt_step (hi := limb n k * limb m j / 2 ^ 64) (lo := limb n k * limb m j % 2 ^ 64) HO.out hlj (by rw [Nat.mul_comm]; exact Nat.div_add_mod _ _)
          have HM64 := Lib.hid (fun w => mul64_any (limb n k) (limb m j) w (limb_lt _ _) (limb_lt _ _))
          have hcl := HO1.2.2
          have HO1' := Lib.hid HO1
          have HT := Lib.hid (show (tab .u64 8 (limb O)).setIfInBounds (k + j) (.int .u64 (((limb n k * limb m j % 2 ^ 64 + limb O (k + j)) % 2 ^ 64 + c) % 2 ^ 64 : Nat)) = tab .u64 8 (limb O') from by
            rw [tab_set hp8]
            exact tab_congr fun i _ => (HO2 i).symm)
          obtain ⟨p, hp⟩ : ∃ p, p = k + j := ⟨_, rfl⟩
          have hp' : (k : Int) + (j : Int) = (p : Int) := by omega
          rw [← hp] at HT hp8 hcl HO1'
          have HP := Lib.hid hp
          have p0 : (0 : Int) ≤ (p : Int) := by omega
          have p8 : (p : Int) < 8 := by omega
          clear hp HO1 HO2
          have hcO := hz4.cellv (tab_get (k := .u64) (f := limb O) hp8)
          have hadd1 := add64_run (limb n k * limb m j % 2 ^ 64) (limb O p) 0 (by omega)
          have hadd2 := add64_run ((limb n k * limb m j % 2 ^ 64 + limb O p) % 2 ^ 64) c 0 (by omega)
          rw [Nat.add_zero] at hadd1 hadd2
          rw [show ((0 : Nat) : Int) = 0 from rfl] at hadd1 hadd2
          generalize limb n k * limb m j % 2 ^ 64 = lo at *
          generalize limb n k * limb m j / 2 ^ 64 = hi at *
          generalize limb O p = o at *
          generalize (lo + o) % 2 ^ 64 = s1 at *
          generalize (lo + o) / 2 ^ 64 = x1 at *
          generalize (s1 + c) % 2 ^ 64 = s2 at *
          generalize (s1 + c) / 2 ^ 64 = x2 at *
          generalize limb n k = ln at *
          generalize limb m j = lm at *
          obtain ⟨c2, hc2⟩ : ∃ c2, c2 = hi + x1 + x2 := ⟨_, rfl⟩
          have hw1 : IntKind.u64.wrap ((hi : Int) + (x1 : Int)) = ((hi + x1 : Nat) : Int) := by rw [← Int.natCast_add, uw _ (by omega)]
          obtain ⟨h1, hh1⟩ : ∃ h1, h1 = hi + x1 := ⟨_, rfl⟩
          have hw2 : IntKind.u64.wrap ((h1 : Int) + (x2 : Int)) = (c2 : Int) := by rw [← Int.natCast_add, uw _ (by omega)]; omega
          rw [← hh1] at hw1
          rw [← hc2] at HO1'
          clear hh1 hc2 hcl
          generalize hco : tab .u64 8 (limb O) = co at *
          have HSZ := Lib.hid (show co.size = 8 from by rw [← hco]; exact tab_size)
          clear hco
          go_wp2
          go_quiet ((go_at_call 77; exact Calls.quiet_of_same (HM64.out _)))
          generalize hwn : wr.drewN nq = wn at *
          have hz4' : Blk wn w3.heap.size 54 co := by rw [← hwn]; exact hz4
          have hz3' : Blk wn w2.heap.size 54 (tab .u64 8 fun _ => 0) := by rw [← hwn]; exact hz3
          have hz2' : Blk wn w1.heap.size 39 cb := by rw [← hwn]; exact hz2
          have hz1' : Blk wn w.heap.size 39 ca := by rw [← hwn]; exact hz1
          have hBn : Below w.heap.size w wn := by rw [← hwn]; exact below_drewN hBx _
          have hcO' : wn.cell? ⟨w3.heap.size, p, none⟩ = some (.int .u64 (o : Nat)) := by rw [← hwn]; exact hcO
          clear hwn hz4 hz3 hz2 hz1 hBx hcO hcA hcB
          go_wp2_with (first
            | ((with_reducible refine gd_store ?_); refine wpList_store_cell rfl 37 (.tmp 54) (.tmp 50) rfl hz4' (i := p) (v := .int .u64 (s2 : Nat)) (by rw [HSZ.out]; exact hp8) (by kernel_rfl) rfl rfl rfl ?_; intro w5 hx5 hg5)
            | fail)
          rw [HT.out] at hx5
          have hB5 := below_blk hBn hBn.size hg5 (by omega)
          go_roundw
          case rel => exact ⟨j + 1, c2, O', by omega, by go_num, rfl, HO1', hx5, hz3'.grown hg5 (by simp; omega), hz1'.grown hg5 (by simp; omega), hz2'.grown hg5 (by simp; omega), hB5⟩
          case measure => (simp [intOf]; try omega)
        · obtain rfl : j = 4 := by omega
          have HD := Lib.hid (mulAt_done HM.out HO.out)
          have h8 : k + 4 < 8 := by omega
          have hp' : (k : Int) + 4 = ((k + 4 : Nat) : Int) := by omega
          have HT := Lib.hid (show (tab .u64 8 (limb O)).setIfInBounds (k + 4) (.int .u64 (c : Nat)) = tab .u64 8 (limb (n % 2 ^ (64 * (k + 1)) * m)) from by
            rw [← HD.out.1, tab_set h8]
            exact tab_congr fun i _ => (HD.out.2 i).symm)
          generalize hp : k + 4 = p at *
          have HP := Lib.hid hp
          clear hp
          have p0 : (0 : Int) ≤ (p : Int) := by omega
          have p8 : (p : Int) < 8 := by omega
          generalize hco : tab .u64 8 (limb O) = co at *
          have HSZ := Lib.hid (show co.size = 8 from by rw [← hco]; exact tab_size)
          clear hco
          go_wp2_with (first
            | ((with_reducible refine gd_store ?_); refine wpList_store_cell rfl 37 (.tmp 59) (.tmp 58) rfl hz4 (i := p) (v := .int .u64 (c : Nat)) (by rw [HSZ.out]; exact h8) (by kernel_rfl) rfl rfl rfl ?_; intro w5 hx5 hg5)
            | fail)
          rw [HT.out] at hx5
          have hB5 := below_blk hBx hBx.size hg5 (by omega)
          go_roundw
          case rel => exact ⟨k + 1, by omega, by go_num, hx5, hz3.grown hg5 (by simp; omega), hz1.grown hg5 (by simp; omega), hz2.grown hg5 (by simp; omega), hB5⟩
          case measure => (simp [intOf]; try omega)
    · obtain rfl : k = 4 := by omega
      rw [show n % 2 ^ (64 * 4) * m = n * m from by rw [Nat.mod_eq_of_lt HN.out]] at hy4
      have H1 := Lib.hid (show oneAll (tab .u64 8 (limb (n * m))).toList = true from tab_one)
      have HS := Lib.hid (show (tab .u64 8 (limb (n * m))).size = 8 from tab_size)
      have HS0 := Lib.hid (show (tab .u64 8 fun _ => 0).size = 8 from tab_size)
      generalize hcs : tab .u64 8 (limb (n * m)) = cs at *
      have HE := Lib.hid hcs
      clear hcs
      generalize tab .u64 8 (fun _ => 0) = c0 at *
      go_wp2_with (first
        | ((with_reducible refine gd_load ?_); refine wpList_load_blk rfl 54 (.tmp 5) rfl hy4 (by rw [HS.out]; exact hN) rfl ?_)
        | ((with_reducible refine gd_store ?_); refine wpList_store_all rfl 54 (.tmp 4) (.tmp 61) rfl cs hy3 (by rw [HS.out]; exact hN) (by rw [HS.out, HS0.out]) H1.out (by rfl) (by rfl) ?_; intro w9 hx9 hg9; have hB9 := below_blk hBr hBr.size hg9 (by omega))
        | fail)
      exact bodyPost_ret (results_blk1 (cs := cs) rfl (by rw [HS.out]; exact hN) hx9 rfl) rfl ⟨by rw [HE.out], hB9⟩
end Go.Mun
