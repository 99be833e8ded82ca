/- The walks of the reference's gas, and of what package gas has besides. -/
import Derived.Test.YtpliedimdhilcaaGas
import Derived.Test.YtpliedimdhilcaaWordFnB
import Derived.Test.YtpliedimdhilcaaRefBits
import Derived.Test.YtpliedimdhilcaaRefOf
namespace Go.Mun
open Go Go.RowKit Go.Proofs

set_option maxHeartbeats 400000 in
theorem RefWords_any (n : Int) (w : World) (h0 : -9223372036854775808 ≤ n) (h1 : n ≤ 4611686018427387904) :
    Calls Try.prog 23 #[.int .i64 n] w fun e w' => e = .returned (.int .i64 (wordsOf n)) ∧ w = w' := by
  by_cases hn0 : n < 0
  · have E : Hid (0 = wordsOf n) := by show _ = wordsOf n; unfold wordsOf; rw [if_neg (by omega)]
    go_enter Try.func23, Try.ntmps23
    go_wp2
    go_ret
    exact ⟨ret_i E.out, rfl⟩
  · have hn : 0 ≤ n := by omega
    clear hn0
    by_cases hr : 0 < n % 32
    · have E : Hid (n / 32 + 1 = wordsOf n) := by show _ = wordsOf n; unfold wordsOf; split <;> omega
      go_enter Try.func23, Try.ntmps23
      go_wp2
      go_ret
      exact ⟨ret_i E.out, rfl⟩
    · have E : Hid (n / 32 = wordsOf n) := by show _ = wordsOf n; unfold wordsOf; split <;> omega
      go_enter Try.func23, Try.ntmps23
      go_wp2
      go_ret
      exact ⟨ret_i E.out, rfl⟩

theorem RefShare_any (n : Int) (w : World) (h0 : -9223372036854775808 ≤ n) (h1 : n ≤ 4611686018427387904) :
    Calls Try.prog 29 #[.int .i64 n] w fun e w' => e = .returned (.int .i64 (shareOf n)) ∧ w = w' := by
  by_cases hn0 : n < 0
  · have E : Hid (0 = shareOf n) := by show _ = shareOf n; unfold shareOf; rw [if_neg (by omega)]
    go_enter Try.func29, Try.ntmps29
    go_wp2
    go_ret
    exact ⟨ret_i E.out, rfl⟩
  · have hn : 0 ≤ n := by omega
    clear hn0
    have E : Hid (n - n / 64 = shareOf n) := by show _ = shareOf n; unfold shareOf; split <;> omega
    go_enter Try.func29, Try.ntmps29
    go_wp2
    go_ret
    exact ⟨ret_i E.out, rfl⟩

def callOf (v t : Bool) : Int := if v then (if t then 9000 else 34000) else 0
theorem Call_any (v t : Bool) (w : World) : Calls Try.prog 30 #[.bool v, .bool t] w fun e w' => e = .returned (.int .i64 (callOf v t)) ∧ w = w' := by
  cases v <;> cases t <;> (go_enter Try.func30, Try.ntmps30; go_wp2; go_ret; exact ⟨rfl, rfl⟩)
theorem RefCall_any (v t : Bool) (w : World) : Calls Try.prog 31 #[.bool v, .bool t] w fun e w' => e = .returned (.int .i64 (callOf v t)) ∧ w = w' := by
  cases v <;> cases t <;> (go_enter Try.func31, Try.ntmps31; go_wp2; go_ret; exact ⟨rfl, rfl⟩)
theorem Log_neg (t n : Int) (w : World) (h0 : n < 0) : Calls Try.prog 32 #[.int .i64 t, .int .i64 n] w fun e w' => e = .returned (.int .i64 0) ∧ w = w' := by
  go_enter Try.func32, Try.ntmps32
  go_wp2
  go_ret
  exact ⟨ret_i (show 8 * max 0 n = 0 from by omega), rfl⟩
theorem Log_pos (t n : Int) (w : World) (h0 : 0 ≤ n) (h1 : n ≤ 1125899906842624) : Calls Try.prog 32 #[.int .i64 t, .int .i64 n] w fun e w' => e = .returned (.int .i64 (8 * n)) ∧ w = w' := by
  go_enter Try.func32, Try.ntmps32
  go_wp2
  go_ret
  exact ⟨ret_i (show 8 * max 0 n = 8 * n from by omega), rfl⟩
def expOf (a : Nat) : Int := 50 * (((blen a : Nat) + 7) / 8 : Nat)
set_option maxHeartbeats 400000 in
theorem GasExp_any (a : Nat) (w : World) (ha : a < 2 ^ 256) : Calls Try.prog 27 #[.agg (wcells a)] w fun e w' => e = .returned (.int .i64 (expOf a)) ∧ Below w.heap.size w w' := by
  have hW := wordTy
  have HSW := Lib.hid wcells_size
  have CB := Lib.hid (fun w => Bits_any a w ha)
  have h256 := (blen_le_iff (n := a) (m := 256)).2 ha
  have HE := Lib.hid (show expOf a = 50 * (((blen a : Nat) : Int) + 7) / 8 * 1 ∨ True from .inr trivial)
  have HX := Lib.hid (show (50 : Int) * ((((blen a : Nat) : Int) + 7) / 8) = expOf a from by unfold expOf; omega)
  generalize expOf a = x at *
  generalize blen a = z at *
  have z0 : (0 : Int) ≤ (z : Int) := by omega
  have z1 : (z : Int) ≤ 256 := by omega
  clear HE
  go_enter Try.func27, Try.ntmps27
  go_wp2_with (first
    | ((with_reducible refine gd_box ?_); refine wpList_box_agg rfl _ (.tmp 0) rfl rfl ?_; intro w2 hx2 hb2 hl2)
    | ((with_reducible refine gd_load ?_); refine wpList_load_blk rfl 25 (.tmp 1) rfl hx2 (by rw [HSW.out]; exact hW) rfl ?_)
    | (go_at_call 41; refine (CB.out _).mono ?_; rintro e w3 ⟨rfl, hb3⟩)
    | fail)
  go_ret
  exact ⟨ret_i HX.out, below_step hb2 hb3⟩
set_option maxHeartbeats 400000 in
theorem GasRefExp_any (a : Nat) (w : World) (ha : a < 2 ^ 256) : Calls Try.prog 28 #[.agg (wcells a)] w fun e w' => e = .returned (.int .i64 (expOf a)) ∧ Below w.heap.size w w' := by
  have hW := wordTy
  have HSW := Lib.hid wcells_size
  have CB := Lib.hid (fun w => RefBits_any a w ha)
  have h256 := (blen_le_iff (n := a) (m := 256)).2 ha
  have HE := Lib.hid (show expOf a = 50 * (((blen a : Nat) : Int) + 7) / 8 * 1 ∨ True from .inr trivial)
  have HX := Lib.hid (show (50 : Int) * ((((blen a : Nat) : Int) + 7) / 8) = expOf a from by unfold expOf; omega)
  generalize expOf a = x at *
  generalize blen a = z at *
  have z0 : (0 : Int) ≤ (z : Int) := by omega
  have z1 : (z : Int) ≤ 256 := by omega
  clear HE
  go_enter Try.func28, Try.ntmps28
  go_wp2_with (first
    | ((with_reducible refine gd_box ?_); refine wpList_box_agg rfl _ (.tmp 0) rfl rfl ?_; intro w2 hx2 hb2 hl2)
    | ((with_reducible refine gd_load ?_); refine wpList_load_blk rfl 25 (.tmp 1) rfl hx2 (by rw [HSW.out]; exact hW) rfl ?_)
    | (go_at_call 42; refine (CB.out _).mono ?_; rintro e w3 ⟨rfl, hb3⟩)
    | fail)
  go_ret
  exact ⟨ret_i HX.out, below_step hb2 hb3⟩
set_option maxHeartbeats 1000000 in
theorem RefIntrinsic_any (cs : Array Value) (mk : Bool) (data : List UInt8) (w : World) (h : TxOk w cs mk data) (hd : data.length ≤ 100000) :
    Calls Try.prog 24 #[.agg cs] w fun e w' => e = .returned (.int .i64 (21000 + (if mk then 32000 else 0) + dataGas data)) ∧ Below w.heap.size w w' := by
  obtain ⟨hcs, hmk, A, n, c, hsl, _, _, _, e, h1, h2, h3, h4⟩ := h
  injection e with e1 e2 e3
  subst e1
  subst e2
  subst e3
  have hmk' := getElem_of hmk (by omega)
  have hsl' := getElem_of hsl (by omega)
  have h4' := h4.alloc (.cells cs 28)
  clear hmk hsl h4
  unfold maxLen at h3
  have hB : Below w.heap.size w (w.alloc (.cells cs 28)) := (Below.refl _ _).alloc (Nat.le_refl _) _
  generalize hbase : (21000 + (if mk = true then 32000 else 0) : Int) = base
  have hb0 : 21000 ≤ base ∧ base ≤ 53000 := by subst hbase; cases mk <;> simp
  cases mk
  · obtain rfl : base = 21000 := by subst hbase; simp
    clear hbase
    go_enter Try.func24, Try.ntmps24
    go_wp2
    go_loop [3, 4] (fun s i => ∃ k : Nat, k ≤ n ∧ i = .int .i64 k ∧ s = .int .i64 (21000 + dataGas (data.take k))) (fun _ i => n - (intOf i).toNat)
    case atStart => exact ⟨0, Nat.zero_le _, rfl, by simp [dataGas]⟩
    case round =>
      obtain ⟨k, hk, rfl, rfl⟩ := hrel
      have hbd := dataGas_bd (data.take k)
      have hlen : (data.take k).length ≤ k := List.length_take_le _ _
      by_cases hlt : k < n
      · obtain ⟨ad, rfl, hcell⟩ := h4'.byte (j := k) (by omega)
        have hst := dataGas_take data (k := k) (by omega)
        generalize dataGas (data.take k) = g at hbd hst ⊢
        generalize data[k] = x at hcell hst
        by_cases hx : x = 0
        · subst hx
          simp only [if_true] at hst
          have HS := Lib.hid hst
          clear hst
          have hc' : (w.alloc (.cells cs 28)).cell? (ad.add k) = some (.int .u8 0) := hcell
          clear hcell
          go_wp2
          go_round
          case rel => exact ⟨k + 1, by omega, by go_num, by rw [HS.out, Int.add_assoc]⟩
          case measure => simp [intOf]; omega
        · rw [if_neg hx] at hst
          have HS := Lib.hid hst
          clear hst
          have hx0 : ((x.toNat : Int) == 0) = false := by
            rw [beq_eq_false_iff_ne]
            intro e
            exact hx (UInt8.toNat_inj.1 (by show x.toNat = 0; omega))
          go_wp2
          go_round
          case rel => exact ⟨k + 1, by omega, by go_num, by rw [HS.out, Int.add_assoc]⟩
          case measure => simp [intOf]; omega
      · obtain rfl : k = n := by omega
        have hf : data.take k = data := List.take_of_length_le (by omega)
        go_wp2
        go_ret
        exact ⟨rfl, hB⟩
  · obtain rfl : base = 53000 := by subst hbase; simp
    clear hbase
    go_enter Try.func24, Try.ntmps24
    go_wp2
    go_loop [3, 4] (fun s i => ∃ k : Nat, k ≤ n ∧ i = .int .i64 k ∧ s = .int .i64 (53000 + dataGas (data.take k))) (fun _ i => n - (intOf i).toNat)
    case atStart => exact ⟨0, Nat.zero_le _, rfl, by simp [dataGas]⟩
    case round =>
      obtain ⟨k, hk, rfl, rfl⟩ := hrel
      have hbd := dataGas_bd (data.take k)
      have hlen : (data.take k).length ≤ k := List.length_take_le _ _
      by_cases hlt : k < n
      · obtain ⟨ad, rfl, hcell⟩ := h4'.byte (j := k) (by omega)
        have hst := dataGas_take data (k := k) (by omega)
        generalize dataGas (data.take k) = g at hbd hst ⊢
        generalize data[k] = x at hcell hst
        by_cases hx : x = 0
        · subst hx
          simp only [if_true] at hst
          have HS := Lib.hid hst
          clear hst
          have hc' : (w.alloc (.cells cs 28)).cell? (ad.add k) = some (.int .u8 0) := hcell
          clear hcell
          go_wp2
          go_round
          case rel => exact ⟨k + 1, by omega, by go_num, by rw [HS.out, Int.add_assoc]⟩
          case measure => simp [intOf]; omega
        · rw [if_neg hx] at hst
          have HS := Lib.hid hst
          clear hst
          have hx0 : ((x.toNat : Int) == 0) = false := by
            rw [beq_eq_false_iff_ne]
            intro e
            exact hx (UInt8.toNat_inj.1 (by show x.toNat = 0; omega))
          go_wp2
          go_round
          case rel => exact ⟨k + 1, by omega, by go_num, by rw [HS.out, Int.add_assoc]⟩
          case measure => simp [intOf]; omega
      · obtain rfl : k = n := by omega
        have hf : data.take k = data := List.take_of_length_le (by omega)
        go_wp2
        go_ret
        exact ⟨rfl, hB⟩

theorem RefIntrinsic_tx (cs : Array Value) (mk : Bool) (data : List UInt8) (w : World) (h : TxOk w cs mk data) (hd : data.length ≤ 100000) :
    Calls Try.prog 24 #[.agg cs] w fun e w' => e = .returned (.int .i64 (txGas mk data)) ∧ Below w.heap.size w w' := RefIntrinsic_any cs mk data w h hd
end Go.Mun
