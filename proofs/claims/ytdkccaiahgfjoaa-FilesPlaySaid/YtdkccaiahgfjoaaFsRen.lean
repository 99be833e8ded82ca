/- Operations on files: Rename. -/
import Derived.Test.YtdkccaiahgfjoaaFsOps2
namespace Go.Mun
open Go Go.RowKit Go.Proofs Go.Maps

theorem namedB_ok {n : Ky} (h : namedB n = true) : NameOk n := of_decide_eq_true (p := n ≠ [] ∧ n.length ≤ 100) h
theorem named_any (n : Ky) (w : World) (hn : n.length ≤ 1000000) : Calls Try.prog 29 #[.string ⟨n.toArray⟩] w fun e w' => e = .returned (.bool (namedB n)) ∧ w = w' := by
  by_cases h : NameOk n
  · rw [show namedB n = true from decide_eq_true h]
    exact named_yes n w h
  · rw [show namedB n = false from decide_eq_false h]
    exact named_no n w h hn
section
variable {k p : Nat} {M : FSs} {φ : Nat → Nat} {o : Own} {K L : Nat} {w : World}
set_option maxRecDepth 100000 in
set_option maxHeartbeats 1000000 in
theorem Rename_any (h : RelP k p M φ o K L w) (a b : Ky) (ha : a.length ≤ 1000000) (hb : b.length ≤ 1000000) (hK : K < 1000000000) (hL : L ≤ 1000000000) :
    Calls Try.prog 25 #[.pointer (some ⟨p, 0, none⟩), .string ⟨a.toArray⟩, .string ⟨b.toArray⟩] w fun e w' => e = .returned (.bool (goesB M (isB M a && namedB b))) ∧ ∃ o' φ', RelP k p (renM M a b) φ' o' (K + 2) L w' ∧ Turn k o o' w w' := by
  have CI := Lib.hid (is_any h a ha)
  have CN := Lib.hid (fun w => named_any b w hb)
  have HR := Lib.hid h
  have CF := Lib.hid (fails_any h (by omega) hL)
  cases hi : isB M a
  · rw [hi] at CI
    unfold renM
    rw [thenM_no (show (isB M a && namedB b) = false by rw [hi]; rfl)]
    clear hi h
    go_enter Try.func25, Try.ntmps25
    go_wp2_with (first
      | (go_at_call 35; (with_reducible refine CI.out.mono ?_); rintro e w1 ⟨rfl, rfl⟩)
      | fail)
    go_ret
    exact ⟨rfl, o, φ, HR.out.more (by omega) (Nat.le_refl _), Turn.refl HR.out.own⟩
  · have HI := Lib.hid hi
    rw [hi] at CI
    cases hn : namedB b
    · rw [hn] at CN
      unfold renM
      rw [thenM_no (show (isB M a && namedB b) = false by rw [hn, Bool.and_false])]
      clear hi h hn
      go_enter Try.func25, Try.ntmps25
      go_wp2_with (first
        | (go_at_call 35; (with_reducible refine CI.out.mono ?_); rintro e w1 ⟨rfl, rfl⟩)
        | (go_at_call 29; (with_reducible refine (CN.out _).mono ?_); rintro e w1 ⟨rfl, rfl⟩)
        | fail)
      go_ret
      exact ⟨rfl, o, φ, HR.out.more (by omega) (Nat.le_refl _), Turn.refl HR.out.own⟩
    · have HN := Lib.hid hn
      rw [hn] at CN
      have HO := Lib.hid (show (isB M a && namedB b) = true by rw [hi, hn]; rfl)
      cases hf : failsB M
      · have HF := Lib.hid hf
        rw [hf] at CF
        obtain ⟨i, hg⟩ := isB_get hi
        have HG := Lib.hid hg
        have HNa := Lib.hid (h.fine.names _ (getP_mem hg))
        by_cases hab : a = b
        · have q1 : (a == b) = true := beq_iff_eq.2 hab
          have q2 : ((⟨a.toArray⟩ : ByteArray) != ⟨b.toArray⟩) = false := by rw [str_ne, decide_eq_true hab]; rfl
          have HAB := Lib.hid hab
          clear hi h hn hf hg hab
          go_enter Try.func25, Try.ntmps25
          go_wp2_with (first
            | (go_at_call 35; (with_reducible refine CI.out.mono ?_); rintro e w1 ⟨rfl, rfl⟩)
            | (go_at_call 29; (with_reducible refine (CN.out _).mono ?_); rintro e w1 ⟨rfl, rfl⟩)
            | (go_at_call 30; (with_reducible refine CF.out.mono ?_); rintro e w1 ⟨rfl, o1, h1, T1⟩)
            | fail)
          go_ret
          refine ⟨by unfold goesB; rw [HF.out]; rfl, o1, φ, ?_, T1⟩
          unfold renM
          rw [thenM_go HO.out HF.out, ren1, if_pos HAB.out]
          exact h1.more (by omega) (Nat.le_refl _)
        · have q1 : (a == b) = false := beq_eq_false_iff_ne.2 hab
          have q2 : ((⟨a.toArray⟩ : ByteArray) != ⟨b.toArray⟩) = true := by rw [str_ne, decide_eq_false hab]; rfl
          have HAB := Lib.hid hab
          clear hi h hn hf hg hab
          go_enter Try.func25, Try.ntmps25
          go_wp2_with (first
            | (go_at_call 35; (with_reducible refine CI.out.mono ?_); rintro e w1 ⟨rfl, rfl⟩)
            | (go_at_call 29; (with_reducible refine (CN.out _).mono ?_); rintro e w1 ⟨rfl, rfl⟩)
            | (go_at_call 30; (with_reducible refine CF.out.mono ?_); rintro e w1 ⟨rfl, o1, h1, T1⟩)
            | (go_at_call 31; have hg1 : getP (failsM M).now a = some i := (by rw [goes_now HF.out]; exact HG.out); have CW := wait_any h1 (.ren a b i) (show NameOk a ∧ NameOk b ∧ a ≠ b ∧ getP (failsM M).now a = some i from ⟨HNa.out, namedB_ok HN.out, HAB.out, hg1⟩) (fun _ _ e => by cases e) (by omega); unfold chgV at CW; (with_reducible refine CW.mono ?_); rintro e w2 ⟨rfl, o2, h2, T2⟩)
            | fail)
          go_ret
          refine ⟨by unfold goesB; rw [HF.out]; rfl, o2, φ, ?_, T1.trans T2⟩
          unfold renM
          rw [thenM_go HO.out HF.out, ren1, if_neg HAB.out, goes_now HF.out, HG.out]
          exact h2
      · have HF := Lib.hid hf
        rw [hf] at CF
        clear hi h hn hf
        go_enter Try.func25, Try.ntmps25
        go_wp2_with (first
          | (go_at_call 35; (with_reducible refine CI.out.mono ?_); rintro e w1 ⟨rfl, rfl⟩)
          | (go_at_call 29; (with_reducible refine (CN.out _).mono ?_); rintro e w1 ⟨rfl, rfl⟩)
          | (go_at_call 30; (with_reducible refine CF.out.mono ?_); rintro e w1 ⟨rfl, o1, h1, T1⟩)
          | fail)
        go_ret
        unfold renM
        rw [thenM_off HO.out HF.out]
        exact ⟨by unfold goesB; rw [HF.out]; rfl, o1, φ, h1.more (by omega) (Nat.le_refl _), T1⟩
end
end Go.Mun
