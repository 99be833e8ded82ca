/- The walks of word.each, And, Or, Xor, Not. -/
import Derived.Test.YtcmhbolonhhhoaaWordShifts
namespace Go.Mun
open Go Go.RowKit Go.Proofs

set_option maxRecDepth 100000 in
set_option maxHeartbeats 1000000 in
theorem each_any (F : Nat → Nat → Nat) (fid : FuncId) (a b : Nat) (w : World) (hcf : ∀ (args : Array Value) (w : World), (callFunc fid args).run Try.prog w = .ok (.enter fid args) w) (hF : ∀ (x y : Nat) (w : World), x < 256 → y < 256 → Calls Try.prog fid #[.int .u8 (x : Nat), .int .u8 (y : Nat)] w fun e w' => e = .returned (.int .u8 (F x y : Nat)) ∧ w' = w) :
    Calls Try.prog 63 #[.agg (wcells a), .agg (wcells b), .func (Fn.func fid) #[] #[]] w fun e w' => e = .returned (.agg (tab .u8 32 fun j => F (lowB a (31 - j)) (lowB b (31 - j)))) ∧ Below w.heap.size w w' := by
  have hW := wordTy
  have zW := zWordL
  have HSW := Lib.hid wcells_size
  have HFF := Lib.hid hF
  have HB := Lib.hid (fun k (hk : k < 32) => wcells_get b hk)
  have H0 := Lib.hid (show wcells a = tab .u8 32 (fun j => if j < 0 then F (lowB a (31 - j)) (lowB b (31 - j)) else lowB a (31 - j)) from by
    rw [wcells, bv_wbytes]; exact tab_congr fun j _ => by simp)
  have H32 := Lib.hid (show tab .u8 32 (fun j => if j < 32 then F (lowB a (31 - j)) (lowB b (31 - j)) else lowB a (31 - j)) = tab .u8 32 (fun j => F (lowB a (31 - j)) (lowB b (31 - j))) from tab_congr fun j hj => by rw [if_pos hj])
  have HG := Lib.hid (fun k (hk : k < 32) => @tab_get .u8 32 (fun j => if j < k then F (lowB a (31 - j)) (lowB b (31 - j)) else lowB a (31 - j)) k hk)
  have HT := Lib.hid (fun k (hk : k < 32) => @tab_set .u8 32 (fun j => if j < k then F (lowB a (31 - j)) (lowB b (31 - j)) else lowB a (31 - j)) k (F (lowB a (31 - k)) (lowB b (31 - k))) hk)
  have HE := Lib.hid (fun k => @tab_congr .u8 32 (fun j => if j = k then F (lowB a (31 - k)) (lowB b (31 - k)) else if j < k then F (lowB a (31 - j)) (lowB b (31 - j)) else lowB a (31 - j)) (fun j => if j < k + 1 then F (lowB a (31 - j)) (lowB b (31 - j)) else lowB a (31 - j)) (fun j _ => by
    by_cases e : j = k
    · subst e; simp
    · by_cases e2 : j < k
      · rw [if_neg e, if_pos e2, if_pos (by omega)]
      · rw [if_neg e, if_neg e2, if_neg (by omega)]))
  have HS := Lib.hid (fun k => @tab_size .u8 32 (fun j => if j < k then F (lowB a (31 - j)) (lowB b (31 - j)) else lowB a (31 - j)))
  clear hF
  have HCA := Lib.hid (wcells_size a)
  generalize wcells a = ca at *
  generalize wcells b = cb at *
  have tokE : True := trivial
  go_enter Try.func63, Try.ntmps63
  go_wp2_with (first
    | ((with_reducible refine gd_box ?_); have _t := tokE; refine wpList_box_agg rfl _ (.tmp 0) rfl rfl ?_; clear tokE; intro w1 hx1 hb1 hl1)
    | ((with_reducible refine gd_box ?_); refine wpList_box_agg rfl _ (.tmp 1) rfl rfl ?_; intro w2 hx2 hb2 hl2)
    | ((with_reducible refine gd_alloc ?_); refine wpList_alloc_blk rfl 23 rfl zW ?_; intro w3 hx3 hb3 hl3)
    | fail)
  replace hx3 : Blk w3 w2.heap.size 23 (wcells 0) := hx3
  have hx1' := (hx1.ext hb2).ext hb3
  have hx2' := hx2.ext hb3
  have hB3 := below_step (below_step hb1 hb2) hb3
  have hg1 := hx1.lt
  have hg2 := hx2.lt
  have hg3 := hx3.lt
  clear hx1 hx2 hb1 hb2 hb3
  go_loopw [8] (fun i wr => ∃ k : Nat, k ≤ 32 ∧ i = .int .i64 k ∧ Blk wr w.heap.size 23 (tab .u8 32 fun j => if j < k then F (lowB a (31 - j)) (lowB b (31 - j)) else lowB a (31 - j)) ∧ Blk wr w1.heap.size 23 cb ∧ Blk wr w2.heap.size 23 (wcells 0) ∧ Below w.heap.size w wr) (fun i _ => 32 - (intOf i).toNat)
  case atStart => exact ⟨0, by omega, rfl, by rw [← H0.out]; exact hx1', hx2', hx3, hB3⟩
  case round =>
    obtain ⟨k, hk, rfl, hy1, hy2, hy3, hBr⟩ := hrel
    by_cases hlt : k < 32
    · have hcA := hy1.cellv (HG.out k hlt)
      rw [if_neg (Nat.lt_irrefl k)] at hcA
      have hcB := hy2.cellv (i := k) (HB.out k hlt)
      have b0 : (0 : Int) ≤ (k : Int) := by omega
      have b1 : (k : Int) < 32 := by omega
      have HC := Lib.hid (fun w => HFF.out (lowB a (31 - k)) (lowB b (31 - k)) w (lowB_lt _ _) (lowB_lt _ _))
      have HTk := Lib.hid ((HT.out k hlt).trans (HE.out k))
      have HSk := Lib.hid (HS.out k)
      generalize F (lowB a (31 - k)) (lowB b (31 - k)) = z at *
      generalize lowB a (31 - k) = x at *
      generalize lowB b (31 - k) = y at *
      generalize (tab .u8 32 fun j => if j < k then F (lowB a (31 - j)) (lowB b (31 - j)) else lowB a (31 - j)) = ck at *
      go_wp2
      go_still_tail 10, (by kernel_rfl)
      still_call (HC.out _)
      repeat still_step
      refine wpStill_nil ?_
      refine wpList_store_cell rfl 5 (.tmp 20) (.tmp 19) rfl (w := wr.drew) hy1.drew (i := k) (v := .int .u8 (z : Nat)) (by rw [HSk.out]; exact hlt) (by kernel_rfl) rfl rfl rfl ?_
      intro w5 hx5 hg5
      rw [HTk.out] at hx5
      have hy2' := hy2.drew.grown hg5 (by simp; omega)
      have hy3' := hy3.drew.grown hg5 (by simp; omega)
      have hB5 := below_blk hBr.drew hBr.size hg5 (by omega)
      go_wp2
      go_roundw
      case rel => exact ⟨k + 1, by omega, by go_num, hx5, hy2', hy3', hB5⟩
      case measure => (simp [intOf]; try omega)
    · obtain rfl : k = 32 := by omega
      rw [H32.out] at hy1
      have HSz := Lib.hid (@tab_size .u8 32 (fun j => F (lowB a (31 - j)) (lowB b (31 - j))))
      have H1z := Lib.hid (@tab_one .u8 32 (fun j => F (lowB a (31 - j)) (lowB b (31 - j))))
      generalize hcr : tab .u8 32 (fun j => F (lowB a (31 - j)) (lowB b (31 - j))) = cr at *
      have HQ := Lib.hid hcr
      clear hcr
      go_wp2_with (first
        | ((with_reducible refine gd_load ?_); refine wpList_load_blk rfl 23 (.tmp 3) rfl hy1 (by rw [HSz.out]; exact hW) rfl ?_)
        | ((with_reducible refine gd_store ?_); refine wpList_store_all rfl 23 (.tmp 6) (.tmp 22) rfl cr hy3 (by rw [HSz.out]; exact hW) (by rw [HSz.out]; exact HSW.out 0) H1z.out (by rfl) (by rfl) ?_; intro w9 hx9 hg9)
        | fail)
      have hB9 := below_blk hBr hBr.size hg9 (by omega)
      exact bodyPost_ret (results_blk1 (cs := cr) rfl (by rw [HSz.out]; exact hW) hx9 rfl) rfl ⟨by rw [HQ.out], hB9⟩

theorem lowB_and (a b k : Nat) : lowB (a &&& b) k = lowB a k &&& lowB b k := by
  unfold lowB
  rw [show (256 : Nat) = 2 ^ 8 from rfl, ← Nat.shiftRight_eq_div_pow, ← Nat.shiftRight_eq_div_pow, ← Nat.shiftRight_eq_div_pow, Nat.shiftRight_and_distrib, Nat.and_mod_two_pow]
theorem lowB_or (a b k : Nat) : lowB (a ||| b) k = lowB a k ||| lowB b k := by
  unfold lowB
  rw [show (256 : Nat) = 2 ^ 8 from rfl, ← Nat.shiftRight_eq_div_pow, ← Nat.shiftRight_eq_div_pow, ← Nat.shiftRight_eq_div_pow, Nat.shiftRight_or_distrib, Nat.or_mod_two_pow]
theorem lowB_xor (a b k : Nat) : lowB (a ^^^ b) k = lowB a k ^^^ lowB b k := by
  unfold lowB
  rw [show (256 : Nat) = 2 ^ 8 from rfl, ← Nat.shiftRight_eq_div_pow, ← Nat.shiftRight_eq_div_pow, ← Nat.shiftRight_eq_div_pow, Nat.shiftRight_xor_distrib, Nat.xor_mod_two_pow]
/-- the ones and noughts changed -/
def notN (a : Nat) : Nat := 2 ^ 256 - 1 - a
theorem lowB_ones (k : Nat) (hk : k < 32) : lowB (2 ^ 256 - 1) k = 255 := by
  unfold lowB
  have e : (2 : Nat) ^ 256 - 1 = (2 ^ (256 - 8 * k) - 1) * 2 ^ (8 * k) + (2 ^ (8 * k) - 1) := by
    rw [Nat.sub_mul, ← Nat.pow_add, show 256 - 8 * k + 8 * k = 256 from by omega]
    have h1 : 0 < 2 ^ (8 * k) := Nat.pow_pos (by decide)
    have h2 : 2 ^ (8 * k) ≤ 2 ^ 256 := Nat.pow_le_pow_right (by decide) (by omega)
    omega
  have h1 : 0 < 2 ^ (8 * k) := Nat.pow_pos (by decide)
  rw [e, Nat.add_comm, Nat.add_mul_div_right _ _ h1, Nat.div_eq_of_lt (by omega), Nat.zero_add]
  have e2 : (2 : Nat) ^ (256 - 8 * k) = 2 ^ (248 - 8 * k) * 256 := by rw [show (256 : Nat) = 2 ^ 8 from rfl, ← Nat.pow_add]; congr 1; omega
  have h3 : 0 < 2 ^ (248 - 8 * k) := Nat.pow_pos (by decide)
  omega
theorem notN_lt (a : Nat) : notN a < 2 ^ 256 := by unfold notN; omega
theorem lowB_not {a : Nat} (ha : a < 2 ^ 256) (k : Nat) (hk : k < 32) : lowB (notN a) k = 255 - lowB a k := by
  unfold notN lowB
  have hp : 0 < 2 ^ (8 * k) := Nat.pow_pos (by decide)
  have e : (2 : Nat) ^ 256 = 2 ^ (248 - 8 * k) * 256 * 2 ^ (8 * k) := by rw [show (256 : Nat) = 2 ^ 8 from rfl, ← Nat.pow_add, ← Nat.pow_add]; congr 1; omega
  have h1 := Nat.div_add_mod a (2 ^ (8 * k))
  have h2 : a % 2 ^ (8 * k) < 2 ^ (8 * k) := Nat.mod_lt _ hp
  have hq : a / 2 ^ (8 * k) < 2 ^ (248 - 8 * k) * 256 := by
    rw [Nat.div_lt_iff_lt_mul hp, ← e]; exact ha
  generalize a / 2 ^ (8 * k) = q at *
  generalize a % 2 ^ (8 * k) = r at *
  generalize hQ : 2 ^ (248 - 8 * k) * 256 = Q at *
  have e3 : 2 ^ 256 - 1 - a = (Q - 1 - q) * 2 ^ (8 * k) + (2 ^ (8 * k) - 1 - r) := by
    rw [e, ← h1, Nat.sub_mul, Nat.sub_mul, Nat.one_mul, Nat.mul_comm (2 ^ (8 * k)) q]
    have : q * 2 ^ (8 * k) + 2 ^ (8 * k) ≤ Q * 2 ^ (8 * k) := by
      have := Nat.mul_le_mul_right (2 ^ (8 * k)) hq
      rw [Nat.succ_mul] at this
      exact this
    omega
  rw [e3, Nat.add_comm, Nat.add_mul_div_right _ _ hp, Nat.div_eq_of_lt (by omega), Nat.zero_add]
  omega
theorem run_enter {P : Program} {f : FuncId} {fn : Func} {c : Code} (hf : P.funcs[f]? = some fn) (hname : (fn.name == "runtime.NumGoroutine") = false) (hb : fn.body = some c) (args : Array Value) (w : World) :
    (callFunc f args).run P w = .ok (.enter f args) w := by
  have h1 : fn.name ≠ "runtime.NumGoroutine" := by simpa using hname
  simp [callFunc, hf, h1, hb]
theorem ones_sub (x : Nat) (hx : x < 256) : 255 ^^^ x = 255 - x := by
  have h : ∀ y : Fin 256, 255 ^^^ y.val = 255 - y.val := by decide +kernel
  exact h ⟨x, hx⟩
theorem xor_byte (x : Nat) (hx : x < 256) : bits .xor .u8 IntKind.u8.max (x : Int) = ((255 - x : Nat) : Int) := by
  have := u8_xor_nat 255 x (by decide) hx
  rw [ones_sub x hx] at this
  exact this
end Go.Mun
