/- The reference: find. -/
import Derived.Test.YtdkccaiahgfjoaaFrRow
namespace Go.Mun
open Go Go.RowKit Go.Proofs Go.Maps

set_option maxRecDepth 100000 in
set_option maxHeartbeats 2000000 in
theorem find_any (φ : Nat → Nat) (v : Value) (P : PL Nat) (n : Ky) (w : World) (h : Ents φ w v P) (hP : Rises P) :
    Calls Try.prog 32 #[v, .string ⟨n.toArray⟩] w fun e w' => ∃ k : Nat, e = .returned (.tuple #[.int .i64 (k : Nat), .bool (getP P n).isSome]) ∧ Place P n k ∧ Below w.heap.size w w' := by
  obtain ⟨A, c, rfl, h1, h2, h3⟩ := h.at_
  have HR := Lib.hid h3
  have HL := Lib.hid (show ∀ k p, P[k]? = some p → ∃ ad, A = some ad ∧ w.cell? (ad.add (k * 2)) = some (.string ⟨p.1.toArray⟩) from fun k p hp => h3 _ _ (erow_at φ hp).1)
  unfold maxLen at h2
  obtain ⟨N, hN⟩ : ∃ N, N = P.length := ⟨_, rfl⟩
  rw [← hN] at h1 ⊢
  have HN := Lib.hid hN
  clear h3 hN h
  go_enter Try.func32, Try.ntmps32
  go_wp2_with fail
  go_loopw [6] (fun iv wr => ∃ k : Nat, k ≤ N ∧ iv = .int .i64 (k : Nat) ∧ wr = w ∧ Hid (∀ j p, j < k → P[j]? = some p → ltB p.1 n = true)) (fun iv _ => N - (RowKit.intOf iv).toNat)
  case atStart => exact ⟨0, Nat.zero_le _, rfl, rfl, Lib.hid fun j p hj => absurd hj (Nat.not_lt_zero _)⟩
  case round =>
    obtain ⟨k, hk, rfl, rfl, HB⟩ := hrel
    by_cases hlt : k < N
    · have f0 : decide ((k : Int) < (N : Int)) = true := decide_eq_true (by omega)
      have i1 : (0 : Int) ≤ k := by omega
      have i2 : (k : Int) < N := by omega
      obtain ⟨p, hp⟩ : ∃ p, P[k]? = some p := ⟨_, List.getElem?_eq_getElem (by rw [← HN.out]; exact hlt)⟩
      obtain ⟨ad, rfl, hc⟩ := HL.out k p hp
      have HP := Lib.hid hp
      by_cases hb : ltB p.1 n = true
      · have f1 : Op.bytesLess p.1 n = true := by rw [less_eq]; exact hb
        have HBB := Lib.hid hb
        have NX := Lib.hid (show ∀ j q, j < k + 1 → P[j]? = some q → ltB q.1 n = true from fun j q hj hq => by
          by_cases hjk : j = k
          · subst hjk; rw [HP.out] at hq; injection hq with hq; subst hq; exact HBB.out
          · exact HB.out j q (by omega) hq)
        clear hb hp
        go_wp2
        go_roundw
        case rel => first | exact ⟨k + 1, by omega, by go_num, rfl, NX⟩ | exact ⟨k + 1, by omega, by go_num, trivial, NX⟩ | ((repeat apply Exists.intro); exact ⟨⟨k + 1, by omega, by go_num, rfl, NX⟩, rfl⟩)
        case measure => simp [RowKit.intOf]; omega
      · have hb' : ltB p.1 n = false := Bool.eq_false_iff.2 hb
        have f1 : Op.bytesLess p.1 n = false := by rw [less_eq]; exact hb'
        have PL0 : Place P n k := place_of hP (by rw [← HN.out]; omega) HB.out (fun q hq => by rw [hp] at hq; injection hq with hq; subst hq; exact hb')
        have RES := Lib.hid (place_found hP PL0 hp)
        clear hb hb' hp
        cases hg : (getP P n).isSome
        · rw [hg] at RES
          have HG := Lib.hid hg
          clear hg
          have q5 := RES.out
          have q6 : decide (p.1 = n) = false := by rw [← list_beq]; exact q5
          have q7 := str_eq p.1 n
          rw [q6] at q7
          go_upto_region 4 with (fail)
          go_quiet (fail)
          go_wp2
          go_ret2
          exact ⟨k, by rw [HG.out]; rfl, PL0, below_drewN (Below.refl _ _) _⟩
        · rw [hg] at RES
          have HG := Lib.hid hg
          clear hg
          have q5 := RES.out
          have q6 : decide (p.1 = n) = true := by rw [← list_beq]; exact q5
          have q7 := str_eq p.1 n
          rw [q6] at q7
          go_upto_region 4 with (fail)
          go_quiet (fail)
          go_wp2
          go_ret2
          exact ⟨k, by rw [HG.out]; rfl, PL0, below_drewN (Below.refl _ _) _⟩
    · obtain rfl : k = N := by omega
      have f0 : decide ((k : Int) < (k : Int)) = false := decide_eq_false (by omega)
      have hnone : ∀ q, P[k]? ≠ some q := fun q hq => by
        have := (List.getElem?_eq_some_iff.1 hq).1
        rw [← HN.out] at this
        omega
      have PL0 : Place P n k := place_of hP (by rw [← HN.out]; omega) HB.out (fun q hq => absurd hq (hnone q))
      have RES := Lib.hid (show (getP P n).isSome = false from place_end (by rw [← HN.out]; exact PL0))
      go_upto_region 4 with (fail)
      go_quiet (fail)
      go_wp2
      go_ret2
      exact ⟨k, by rw [RES.out]; rfl, PL0, below_drewN (Below.refl _ _) _⟩
end Go.Mun
