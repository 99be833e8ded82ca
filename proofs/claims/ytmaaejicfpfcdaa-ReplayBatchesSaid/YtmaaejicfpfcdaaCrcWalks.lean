/- The walks of crc.Sum and munimentsref1.Crc. -/
import Derived.Test.YtmaaejicfpfcdaaCrcPlain
import Derived.Test.YtmaaejicfpfcdaaProg
namespace Go.Mun
open Go Go.RowKit Go.Proofs

set_option maxHeartbeats 400000 in
theorem Crc_any (A : Option Addr) (n c : Nat) (l : List UInt8) (w : World) (hl : l.length = n) (hr : Rd w A (bv l)) (hn : n ≤ 4611686018427387904) :
    Calls Try.prog 18 #[.slice A n c] w fun e w' => e = .returned (.int .i64 (crcSum l)) ∧ w = w' := by
  go_enter Try.func18, Try.ntmps18
  go_wp2
  go_loop [3, 4] (fun s i => ∃ k : Nat, k ≤ n ∧ i = .int .i64 k ∧ s = .int .u32 ((crcRun 4294967295 (l.take k)).toNat : Int)) (fun _ i => n - (intOf i).toNat)
  case atStart => exact ⟨0, Nat.zero_le _, rfl, by simp [crcRun]⟩
  case round =>
    obtain ⟨k, hk, rfl, rfl⟩ := hrel
    by_cases hlt : k < n
    · obtain ⟨ad, rfl, hcell⟩ := hr.byte (j := k) (by omega)
      have hstep := crcRun_take 4294967295 l (k := k) (by omega)
      generalize crcRun 4294967295 (l.take k) = s at hstep ⊢
      have HS := Lib.hid hstep; clear hstep
      generalize l[k] = x at hcell HS
      have hx := u32_xor_byte s x
      go_wp2
      go_loop [3, 5] (fun s' i => ∃ j : Nat, j ≤ 8 ∧ i = .int .i64 j ∧ s' = .int .u32 ((crcSteps j (s ^^^ x.toUInt32)).toNat : Int)) (fun _ i => 8 - (intOf i).toNat)
      case atStart => exact ⟨0, Nat.zero_le _, rfl, rfl⟩
      case round =>
        obtain ⟨j, hj, rfl, rfl⟩ := hrel
        have hnext : crcSteps (j + 1) (s ^^^ x.toUInt32) = crcStep (crcSteps j (s ^^^ x.toUInt32)) := rfl
        have hdone : j = 8 → crcRun 4294967295 (l.take (k + 1)) = crcSteps j (s ^^^ x.toUInt32) := fun e => by rw [HS.out, e]; rfl
        generalize crcSteps j (s ^^^ x.toUInt32) = t at hnext hdone ⊢
        have HD := Lib.hid hdone; clear hdone
        by_cases hj8 : j < 8
        · have ho := @crcStep_odd t
          have he := @crcStep_even t
          go_wp2
          · go_round
            case rel => exact ⟨j + 1, by omega, by go_num, by rw [hnext]⟩
            case measure => simp [intOf]; omega
          · go_round
            case rel => exact ⟨j + 1, by omega, by go_num, by rw [he ‹_›, hnext]⟩
            case measure => simp [intOf]; omega
        · obtain rfl : j = 8 := by omega
          go_wp2
          go_round
          case rel => exact ⟨k + 1, by omega, by go_num, by rw [HD.out rfl]⟩
          case measure => simp [intOf]; omega
    · obtain rfl : k = n := by omega
      have hw := crcSum_wrap (l.take k)
      rw [show l.take k = l from List.take_of_length_le (by omega)] at hw ⊢
      have HW := Lib.hid hw; clear hw
      go_wp2
      go_ret
      exact ⟨ret_i HW.out, rfl⟩

set_option maxHeartbeats 400000 in
theorem Sum_any (A : Option Addr) (n c : Nat) (ls : List (List UInt8)) (vs : List Value) (w : World) (hl : ls.length = n) (hvl : vs.length = n) (hn : n ≤ 4611686018427387904)
    (hr : Rd w A vs) (hb : ∀ i (h : i < n), Bytes w (vs[i]) ls[i]) :
    Calls Try.prog 17 #[.slice A n c] w fun e w' => e = .returned (.int .i64 (crcSum ls.flatten)) ∧ w = w' := by
  go_enter Try.func17, Try.ntmps17
  go_wp2
  go_loop [3, 10] (fun s i => ∃ k : Nat, k ≤ n ∧ i = .int .i64 k ∧ s = .int .u32 ((crcRun 4294967295 (ls.take k).flatten).toNat : Int)) (fun _ i => n - (intOf i).toNat)
  case atStart => exact ⟨0, Nat.zero_le _, rfl, by simp [crcRun]⟩
  case round =>
    obtain ⟨k, hk, rfl, rfl⟩ := hrel
    by_cases hlt : k < n
    · obtain ⟨ad, rfl, hcell⟩ := hr.at_ (j := k) (by omega)
      obtain ⟨B, m, c', hv, hm1, hm2, hm3, hm4⟩ := hb k hlt
      rw [hv] at hcell
      have hstep : crcRun 4294967295 (ls.take (k + 1)).flatten = crcRun (crcRun 4294967295 (ls.take k).flatten) ls[k] := by
        rw [take_snoc ls (by omega), List.flatten_append, crcRun_append]; simp
      generalize crcRun 4294967295 (ls.take k).flatten = s0 at hstep ⊢
      have HS := Lib.hid hstep; clear hstep
      generalize ls[k] = l at hm1 hm4 HS
      clear hv hb hr
      unfold maxLen at hm3
      go_wp2
      go_loop [3, 16] (fun s i => ∃ k : Nat, k ≤ m ∧ i = .int .i64 k ∧ s = .int .u32 ((crcRun s0 (l.take k)).toNat : Int)) (fun _ i => m - (intOf i).toNat)
      case atStart => exact ⟨0, Nat.zero_le _, rfl, by simp [crcRun]⟩
      case round =>
        obtain ⟨k', hk', rfl, rfl⟩ := hrel
        by_cases hlt' : k' < m
        · obtain ⟨bd, rfl, hcell'⟩ := hm4.byte (j := k') (by omega)
          have hstep := crcRun_take s0 l (k := k') (by omega)
          generalize crcRun s0 (l.take k') = s at hstep ⊢
          have HS' := Lib.hid hstep; clear hstep
          generalize l[k'] = x at hcell' HS'
          have hx := u32_xor_byte s x
          clear hcell HS
          go_wp2
          go_loop [3, 24] (fun s' i => ∃ j : Nat, j ≤ 8 ∧ i = .int .i64 j ∧ s' = .int .u32 ((crcSteps j (s ^^^ x.toUInt32)).toNat : Int)) (fun _ i => 8 - (intOf i).toNat)
          case atStart => exact ⟨0, Nat.zero_le _, rfl, rfl⟩
          case round =>
            obtain ⟨j, hj, rfl, rfl⟩ := hrel
            have hnext : crcSteps (j + 1) (s ^^^ x.toUInt32) = crcStep (crcSteps j (s ^^^ x.toUInt32)) := rfl
            have hdone : j = 8 → crcRun s0 (l.take (k' + 1)) = crcSteps j (s ^^^ x.toUInt32) := fun e => by rw [HS'.out, e]; rfl
            generalize crcSteps j (s ^^^ x.toUInt32) = t at hnext hdone ⊢
            have HD := Lib.hid hdone; clear hdone
            by_cases hj8 : j < 8
            · have ho := crcStep_mul t
              clear hx hcell'
              go_wp2
              go_round
              case rel => exact ⟨j + 1, by omega, by go_num, by rw [hnext]⟩
              case measure => simp [intOf]; omega
            · obtain rfl : j = 8 := by omega
              go_wp2
              go_round
              case rel => exact ⟨k' + 1, by omega, by go_num, by rw [HD.out rfl]⟩
              case measure => simp [intOf]; omega
        · obtain rfl : k' = m := by omega
          have hfull : l.take k' = l := List.take_of_length_le (by omega)
          go_wp2
          go_round
          case rel => exact ⟨k + 1, by omega, by go_num, by rw [HS.out, hfull]⟩
          case measure => simp [intOf]; omega
    · obtain rfl : k = n := by omega
      have hw := crcSum_wrap (ls.take k).flatten
      rw [show ls.take k = ls from List.take_of_length_le (by omega)] at hw ⊢
      have HW := Lib.hid hw; clear hw
      go_wp2
      go_ret
      exact ⟨ret_i HW.out, rfl⟩
end Go.Mun
