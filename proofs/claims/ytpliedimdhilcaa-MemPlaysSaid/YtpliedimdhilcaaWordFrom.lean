/- The walks of word.from and number.word. -/
import Derived.Test.YtpliedimdhilcaaWordPlain
import Derived.Test.YtpliedimdhilcaaProg
import Derived.Deep.RegionHeld3
import Derived.Outline
import Derived.StillTailTactics
namespace Go.Mun
open Go Go.RowKit Go.Proofs

theorem numTy : AggTy Try.prog 77 4 := ⟨⟨_, Try.underlying77, rfl⟩, by kernel_rfl⟩
theorem wordTy : AggTy Try.prog 25 32 := ⟨⟨_, Try.underlying25, rfl⟩, by kernel_rfl⟩
theorem zNum : (Try.prog.info? 77).bind (·.zero) = some (.agg #[.int .u64 0, .int .u64 0, .int .u64 0, .int .u64 0]) := by kernel_rfl
def wcells (n : Nat) : Array Value := (bv (wbytes n)).toArray
theorem wcells_size (n : Nat) : (wcells n).size = 32 := by simp [wcells, bv_length, wbytes_length]

theorem limbsV_get (m : Nat) {a : Nat} (h : a < 4) : (limbsV m)[a]? = some (.int .u64 (limb m a : Nat)) := by
  have h4 : a = 0 ∨ a = 1 ∨ a = 2 ∨ a = 3 := by omega
  rcases h4 with e | e | e | e <;> rw [e] <;> rfl
theorem limbsV_zero : limbsV 0 = #[.int .u64 0, .int .u64 0, .int .u64 0, .int .u64 0] := by simp [limbsV, limb]
theorem hiN_all {n : Nat} (h : n < 2 ^ 256) : hiN n 32 = 0 := by
  unfold hiN
  rw [Nat.div_eq_of_lt h, Nat.zero_mul]
theorem wcells_get (n : Nat) {k : Nat} (hk : k < 32) : (wcells n)[k]? = some (.int .u8 (lowB n (31 - k) : Nat)) := by
  have h := lowB_lt n (31 - k)
  simp [wcells, bv, wbytes, hk]
  omega
/-- 'a[i]' of an array of elements of one cell, by value -/
theorem run_index_arr {P : Program} {t e : TypeId} {n : Nat} {cs : Array Value} {i : Nat} {v : Value} (h : P.underlying t = some (.array n e)) (hd : (P.info? e).map (·.size) = some 1) {kk : IntKind} (hu : P.underlying e = some (.int kk)) (hi : i < n) (hv : cs[i]? = some v) (w : World) :
    (Instr.index t (.agg cs) (.int .i64 (i : Int))).run P w = .ok v w := by
  have hn : (0 : Int) ≤ i ∧ (i : Int) < (n : Int) := by omega
  cases hq : P.info? e with
  | none => rw [hq] at hd; cases hd
  | some inf =>
    have hsz : inf.size = 1 := by rw [hq] at hd; simpa using hd
    simp [Instr.index, run_underlying h, asIntOf, hn, go_sem, part, isAgg, run_underlying hu, sizeOf, typeInfo, hq, hsz, hv]
    intro h9
    omega

set_option maxRecDepth 100000 in
set_option maxHeartbeats 1000000 in
theorem from_any (n : Nat) (w : World) (hn : n < 2 ^ 256) : Calls Try.prog 51 #[.agg (wcells n)] w fun e w' => e = .returned (.agg (limbsV n)) ∧ Below w.heap.size w w' := by
  have hN := numTy
  have hW := wordTy
  have zN := zNum
  have hs := wcells_size n
  have HG := Lib.hid (fun k (hk : k < 32) => wcells_get n hk)
  generalize wcells n = cs at *
  have HS := Lib.hid hs
  clear hs
  have tok1 : True := trivial
  have tok2 : True := trivial
  go_enter Try.func51, Try.ntmps51
  go_wp2_with (first
    | ((with_reducible refine gd_box ?_); refine wpList_box_agg rfl _ (.tmp 0) rfl rfl ?_; intro w1 hx1 hB hl1)
    | ((with_reducible refine gd_alloc ?_); have _t := tok1; refine wpList_alloc_blk rfl 77 rfl zN ?_; clear tok1; intro w2 hx2 hb2 hl2)
    | ((with_reducible refine gd_alloc ?_); have _t := tok2; refine wpList_alloc_blk rfl 77 rfl zN ?_; clear tok2; intro w3 hx3 hb3 hl3)
    | ((with_reducible refine gd_load ?_); refine wpList_load_blk rfl 25 (.tmp 1) rfl ((hx1.ext hb2).ext hb3) (by rw [HS.out]; exact hW) rfl ?_)
    | fail)
  have hx1' := (hx1.ext hb2).ext hb3
  have hx2' := hx2.ext hb3
  have hB3 := below_step (below_step hB hb2) hb3
  have hg12 := hx1.lt
  have HZ := Lib.hid (show limbsV (hiN n (32 - 0)) = #[.int .u64 0, .int .u64 0, .int .u64 0, .int .u64 0] from by rw [show 32 - 0 = 32 from rfl, hiN_all hn, limbsV_zero])
  clear hn
  have hg23 := hx2.lt
  have HIX := Lib.hid (fun (k : Nat) (hk : k < 32) (v : Value) (hv : cs[k]? = some v) (w : World) => run_index_arr (P := Try.prog) (t := 25) (e := 5) Try.underlying25 (by kernel_rfl) Try.underlying5 hk hv w)
  go_loopw [8] (fun i wr => ∃ k : Nat, k ≤ 32 ∧ i = .int .i64 k ∧ Blk wr w2.heap.size 77 (limbsV (hiN n (32 - k))) ∧ Blk wr w1.heap.size 77 (Value.agg #[.int .u64 0, .int .u64 0, .int .u64 0, .int .u64 0]).cells ∧ Below w.heap.size w wr) (fun i _ => 32 - (intOf i).toNat)
  case atStart => exact ⟨0, by omega, rfl, by rw [HZ.out]; exact hx3, hx2', hB3⟩
  case round =>
    obtain ⟨k, hk, rfl, hy3, hy2, hBr⟩ := hrel
    by_cases hlt : k < 32
    · obtain ⟨j, hj⟩ : ∃ j, j = 31 - k := ⟨_, rfl⟩
      have hix := HIX.out k hlt (.int .u8 (lowB n j : Nat)) (by rw [hj]; exact HG.out k hlt)
      rw [show 32 - k = j + 1 from by omega] at hy3
      have hm : (31 : Int) - (k : Int) = (j : Int) := by omega
      have hj8 : j / 8 < 4 := by omega
      have HLO := Lib.hid (limb_or n j)
      have HLS := Lib.hid (limbs_step n j (by omega))
      have HJ := Lib.hid hj
      clear hj
      have q1 : (j : Int).tdiv 8 = ((j / 8 : Nat) : Int) := by rw [Int.tdiv_eq_ediv_of_nonneg (by omega)]; omega
      have q2 : (j : Int).tmod 8 = ((j % 8 : Nat) : Int) := by rw [Int.tmod_eq_emod_of_nonneg (by omega)]; omega
      have q1' : (j : Int) / 8 = ((j / 8 : Nat) : Int) := by omega
      have q2' : (j : Int) % 8 = ((j % 8 : Nat) : Int) := by omega
      have hjr : j % 8 < 8 := by omega
      generalize j / 8 = a at *
      generalize j % 8 = r at *
      have q3 : 8 * (r : Int) = ((8 * r : Nat) : Int) := by omega
      have hrt : 8 * r < 64 := by omega
      generalize 8 * r = t at *
      have w1 : IntKind.i64.wrap (a : Int) = (a : Int) := IntWalk.i64_in _ (by omega)
      have w2' : IntKind.i64.wrap (r : Int) = (r : Int) := IntWalk.i64_in _ (by omega)
      have w3' : IntKind.i64.wrap (t : Int) = (t : Int) := IntWalk.i64_in _ (by omega)
      have b0 : (0 : Int) ≤ (a : Int) := by omega
      have b1 : (a : Int) < 4 := by omega
      have b2 : (0 : Int) ≤ (t : Int) := by omega
      have b3 : (t : Int) < 64 := by omega
      have hcell := hy3.cellv (i := a) (v := .int .u64 (limb (hiN n (j + 1)) a : Nat)) (limbsV_get _ hj8)
      go_wp2
      go_still_tail 12, (by kernel_rfl)
      rw [HLO.out]
      refine wpList_store_cell rfl 75 (.tmp 25) (.tmp 24) rfl (w := wr.drew) hy3.drew (i := a) (v := .int .u64 (limb (hiN n j) a : Nat)) hj8 (by kernel_rfl) rfl rfl rfl ?_
      intro w5 hx5 hg5
      rw [HLS.out] at hx5
      have hy2' := hy2.drew.grown hg5 (by simp; omega)
      have hB5 := below_blk hBr.drew hBr.size hg5 (by omega)
      go_wp2
      go_roundw
      case rel => exact ⟨k + 1, by omega, by go_num, by rw [show 32 - (k + 1) = j from by have := HJ.out; omega]; exact hx5, hy2', hB5⟩
      case measure => simp [intOf]; omega
    · obtain rfl : k = 32 := by omega
      have hy4 : Blk wr w2.heap.size 77 (limbsV n) := by rw [show 32 - 32 = 0 from rfl, hiN_zero] at hy3; exact hy3
      clear hy3
      go_wp2_with (first
        | ((with_reducible refine gd_load ?_); refine wpList_load_blk rfl 77 (.tmp 3) rfl hy4 hN rfl ?_)
        | ((with_reducible refine gd_store ?_); refine wpList_store_all rfl 77 (.tmp 2) (.tmp 27) rfl (limbsV n) hy2 hN rfl rfl (by rfl) (by rfl) ?_; intro w9 hx9 hg9; have hB9 := below_blk hBr hBr.size hg9 (by omega))
        | fail)
      exact bodyPost_ret (results_blk1 (cs := limbsV n) rfl hN hx9 rfl) rfl ⟨rfl, hB9⟩
end Go.Mun
