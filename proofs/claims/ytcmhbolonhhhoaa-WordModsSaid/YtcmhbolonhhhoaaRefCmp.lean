/- The walks of munimentsref1.cmp and sub. -/
import Derived.Test.YtcmhbolonhhhoaaRefLimbs
namespace Go.Mun
open Go Go.RowKit Go.Proofs

theorem dig_div (N k : Nat) : N / 2 ^ (16 * k) = N / 2 ^ (16 * (k + 1)) * 65536 + dig N k := by
  unfold dig
  rw [show 16 * (k + 1) = 16 * k + 16 from by omega, Nat.pow_add, ← Nat.div_div_eq_div_mul]
  generalize N / 2 ^ (16 * k) = q
  omega
theorem lt_of_div {a b p : Nat} (h : a / p < b / p) : a < b := by
  rcases Nat.lt_or_ge a b with g | g
  · exact g
  · have := Nat.div_le_div_right (c := p) g
    omega
theorem cmp_dig {a b q : Nat} (h : a / 2 ^ (16 * (q + 1)) = b / 2 ^ (16 * (q + 1))) : (dig a q < dig b q → a < b) ∧ (dig a q = dig b q → a / 2 ^ (16 * q) = b / 2 ^ (16 * q)) := by
  have ha := dig_div a q
  have hb := dig_div b q
  refine ⟨fun g => lt_of_div (p := 2 ^ (16 * q)) (by omega), fun g => by omega⟩

set_option maxRecDepth 100000 in
set_option maxHeartbeats 2000000 in
theorem refcmp_any (ad bd : Addr) (m n ca cb A B : Nat) (w : World) (hA : A < 2 ^ (16 * m)) (hB : B < 2 ^ (16 * n)) (hnm : n ≤ m) (hm : m ≤ 1000) (ra : Rd w (some ad) (dtab m A).toList) (rb : Rd w (some bd) (dtab n B).toList) :
    Calls Try.prog 75 #[.slice (some ad) m ca, .slice (some bd) n cb] w fun e w' => e = .returned (.int .i64 (cmpN A B)) ∧ w = w' := by
  have H0 := Lib.hid (show A / 2 ^ (16 * m) = B / 2 ^ (16 * m) from by rw [Nat.div_eq_of_lt hA, Nat.div_eq_of_lt (Nat.lt_of_lt_of_le hB (Nat.pow_le_pow_right (by decide) (by omega)))])
  have HT := Lib.hid (fun q (h : n ≤ q) => dig_top hB h)
  have HCA := Lib.hid (fun i (h : i < m) => rd_at ra (dtab_get A h))
  have HCB := Lib.hid (fun i (h : i < n) => rd_at rb (dtab_get B h))
  have HLA := Lib.hid (dig_lt A)
  have HLB := Lib.hid (dig_lt B)
  have hm' : (m : Int) ≤ 1000 := by omega
  have d0 : decide (m < n) = false := decide_eq_false (by omega)
  clear hA hB ra rb
  go_enter Try.func75, Try.ntmps75
  go_wp2
  go_loop [6] (fun i => ∃ k : Nat, k ≤ m ∧ i = .int .i64 ((k : Int) - 1) ∧ Hid (A / 2 ^ (16 * k) = B / 2 ^ (16 * k))) (fun i => (intOf i + 1).toNat)
  case atStart => exact ⟨m, by omega, rfl, H0⟩
  case round =>
    obtain ⟨k, hk, hi, HK⟩ := hrel
    rcases k with _ | q
    · obtain rfl : _ = Value.int .i64 (-1) := hi.trans rfl
      clear hi
      obtain rfl : A = B := by have := HK.out; simpa using this
      go_wp2
      go_ret
      exact ⟨ret_i (by simp [cmpN]), rfl⟩
    · obtain rfl : _ = Value.int .i64 (q : Int) := hi.trans (congrArg (Value.int .i64) (by omega))
      clear hi
      have q0 : (0 : Int) ≤ (q : Int) := by omega
      have q1 : q < m := by omega
      have q2 : (q : Int) < (m : Int) := by omega
      have hca := HCA.out q q1
      have hla := HLA.out q
      have hlb := HLB.out q
      have HL := Lib.hid (cmp_dig HK.out)
      have HL' := Lib.hid (cmp_dig HK.out.symm)
      by_cases hn : q < n
      · have hcb := HCB.out q hn
        have hn2 : (q : Int) < (n : Int) := by omega
        generalize dig A q = x at *
        generalize dig B q = y at *
        rcases Nat.lt_trichotomy x y with c | c | c
        · have d1 : decide (x < y) = true := decide_eq_true (by omega)
          have HR := Lib.hid (HL.out.1 c)
          clear c
          go_wp2
          go_ret
          exact ⟨ret_i (by unfold cmpN; rw [if_pos HR.out]), rfl⟩
        · have d1 : decide (x < y) = false := decide_eq_false (by omega)
          have d2 : decide (y < x) = false := decide_eq_false (by omega)
          have HR := Lib.hid (HL.out.2 c)
          clear c
          go_wp2
          go_round
          case rel => exact ⟨q, by omega, rfl, HR⟩
          case measure => (simp [intOf]; try omega)
        · have d1 : decide (x < y) = false := decide_eq_false (by omega)
          have d2 : decide (y < x) = true := decide_eq_true (by omega)
          have HR := Lib.hid (HL'.out.1 c)
          clear c
          go_wp2
          go_ret
          exact ⟨ret_i (by unfold cmpN; have := HR.out; rw [if_neg (by omega), if_pos HR.out]), rfl⟩
      · have hn2 : decide (q < n) = false := decide_eq_false hn
        have hy := HT.out q (by omega)
        rw [hy] at HL HL'
        clear hy hlb
        generalize dig A q = x at *
        rcases Nat.eq_zero_or_pos x with c | c
        · have HR := Lib.hid (HL.out.2 c)
          subst c
          go_wp2
          go_round
          case rel => exact ⟨q, by omega, rfl, HR⟩
          case measure => (simp [intOf]; try omega)
        · have HR := Lib.hid (HL'.out.1 c)
          have c1 : (0 : Int) < (x : Int) := by omega
          have d1 : decide ((x : Int) < 0) = false := decide_eq_false (by omega)
          go_wp2
          go_ret
          exact ⟨ret_i (by unfold cmpN; have := HR.out; rw [if_neg (by omega), if_pos HR.out]), rfl⟩
end Go.Mun
