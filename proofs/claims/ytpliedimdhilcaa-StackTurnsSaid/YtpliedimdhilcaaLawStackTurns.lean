/- 'StackTurns' answers true at every input. No condition. -/
import Derived.Test.YtpliedimdhilcaaTurnsLoLo
import Derived.Test.YtpliedimdhilcaaTurnsLoHi
import Derived.Test.YtpliedimdhilcaaTurnsLoIn
import Derived.Test.YtpliedimdhilcaaTurnsHiLo
import Derived.Test.YtpliedimdhilcaaTurnsHiHi
import Derived.Test.YtpliedimdhilcaaTurnsHiIn
import Derived.Test.YtpliedimdhilcaaTurnsInLo
import Derived.Test.YtpliedimdhilcaaTurnsInHi
import Derived.Test.YtpliedimdhilcaaTurnsInIn
import Derived.Test.YtpliedimdhilcaaLaw
import Derived.Test.YtpliedimdhilcaaRows
namespace Go.Proofs.Ytpliedimdhilcaa.StackTurns
open Go Go.RowKit Go.Mun Go.Proofs

theorem walk_early (n : Int) (v1 v2 : Value) (w : World) (_h1 : -9223372036854775808 ≤ n) (_h2 : n ≤ 9223372036854775807) (h : n < 0 ∨ 40 < n) :
    Calls Try.prog 8 #[.int .i64 n, v1, v2] w fun e w' => e = .returned (.bool true) ∧ Below w.heap.size w w' := by
  have CA := Lib.hid alive13
  by_cases h1 : n < 0
  · have d1 : decide (n < 0) = true := decide_eq_true h1
    clear h
    go_enter Try.func8, Try.ntmps8
    go_wp2_with (first
      | (go_at_call 14; refine (CA.out _).mono ?_; rintro e w1 ⟨rfl, hb1⟩)
      | fail)
    go_ret
    exact ⟨rfl, hb1⟩
  · have d1 : decide (n < 0) = false := decide_eq_false h1
    have d2 : decide (40 < n) = true := decide_eq_true (by omega)
    clear h
    go_enter Try.func8, Try.ntmps8
    go_wp2_with (first
      | (go_at_call 14; refine (CA.out _).mono ?_; rintro e w1 ⟨rfl, hb1⟩)
      | fail)
    go_ret
    exact ⟨rfl, hb1⟩
theorem walk (n : Nat) (di si : Int) (w : World) (hn : n ≤ 40) (hd : -9223372036854775808 ≤ di ∧ di ≤ 9223372036854775807) (hs : -9223372036854775808 ≤ si ∧ si ≤ 9223372036854775807) :
    Calls Try.prog 8 #[.int .i64 (n : Nat), .int .i64 di, .int .i64 si] w fun e w' => e = .returned (.bool true) ∧ Below w.heap.size w w' := by
  by_cases h1 : di < 1
  · by_cases h2 : si < 1
    · exact walk_lo_lo n di h1 hd.1 si h2 hs.1 w hn
    · by_cases h3 : (n : Int) - 1 < si
      · exact walk_lo_hi n di h1 hd.1 si h3 (by omega) hs.2 w hn
      · obtain ⟨s, rfl⟩ : ∃ s : Nat, si = s := ⟨si.toNat, by omega⟩
        exact walk_lo_in n di h1 hd.1 s (by omega) (by omega) w hn
  · by_cases h0 : (n : Int) < di
    · by_cases h2 : si < 1
      · exact walk_hi_lo n di h0 hd.2 si h2 hs.1 w hn
      · by_cases h3 : (n : Int) - 1 < si
        · exact walk_hi_hi n di h0 hd.2 si h3 (by omega) hs.2 w hn
        · obtain ⟨s, rfl⟩ : ∃ s : Nat, si = s := ⟨si.toNat, by omega⟩
          exact walk_hi_in n di h0 hd.2 s (by omega) (by omega) w hn
    · obtain ⟨d, rfl⟩ : ∃ d : Nat, di = d := ⟨di.toNat, by omega⟩
      by_cases h2 : si < 1
      · exact walk_in_lo n d (by omega) (by omega) si h2 hs.1 w hn
      · by_cases h3 : (n : Int) + 1 - 1 < si
        · exact walk_in_hi n d (by omega) (by omega) si h3 (by omega) hs.2 w hn
        · obtain ⟨s, rfl⟩ : ∃ s : Nat, si = s := ⟨si.toNat, by omega⟩
          exact walk_in_in n d (by omega) (by omega) s (by omega) (by omega) w hn
open Go.ChangeShapes Go.WideShapes Go.ChangeAt

set_option maxRecDepth 100000 in
theorem lifted (os : Os) (started : os.Started) (H : Type) (enc : TypeId × Value → H) :
    ReturnsInHanded {} Try.checked os 8 .any (Rows.stackTurnsSpec.pre6 enc Try.prog Try.f8 Rows.stackTurnsRow.domain false) (Rows.stackTurnsSpec.post enc Try.prog Try.f8 false true false false) := by
  refine law_lift (C := Try.checked) (ts := [3, 3, 3]) (tb := 4) (by kernel_rfl) started (by kernel_rfl) Try.func8
    (ChangeSpec.witness6 (enc := enc) (C := Try.checked) false ⟨#[], #[.int .i64 0, .int .i64 0, .int .i64 0], []⟩ 8 (by kernel_rfl) (by kernel_rfl) (by kernel_rfl) (by kernel_rfl))
    (by kernel_rfl) (by kernel_rfl) (by kernel_rfl) (by kernel_rfl) Try.underlying4 rfl (fun ds h => by match ds, h with | [_, _, _], _ => rfl) ?_
  intro W vs hl h
  match vs, hl with
  | [v0, v1, v2], _ =>
    obtain ⟨n, rfl, hn⟩ := arg_int Try.underlying3 (h 0 _ v0 rfl rfl)
    obtain ⟨d, rfl, hd⟩ := arg_int Try.underlying3 (h 1 _ v1 rfl rfl)
    obtain ⟨s, rfl, hs⟩ := arg_int Try.underlying3 (h 2 _ v2 rfl rfl)
    have hnb := bounds_i64 hn
    have hdb := bounds_i64 hd
    have hsb := bounds_i64 hs
    by_cases he : n < 0 ∨ 40 < n
    · exact walk_early n _ _ W hnb.1 hnb.2 he
    · obtain ⟨m, rfl⟩ : ∃ m : Nat, n = m := ⟨n.toNat, by omega⟩
      exact walk m d s W (by omega) hdb hsb

theorem over : Rows.stackTurnsRow.holds Try.pinned (OpenSpec.ofChange Rows.stackTurnsSpec) :=
  OpenClaim.holds_of_wide 8 Try.f8 rfl rfl rfl rfl rfl rfl rfl ⟨rfl, rfl, rfl, rfl, rfl⟩ rfl rfl rfl rfl rfl (by kernel_rfl) Try.func8 (by kernel_rfl)
    (of_decide_eq_true (by kernel_rfl)) (by unfold Func.isWrapper; first | (rw [if_pos (by decide +kernel)]; kernel_rfl) | (rw [if_neg (by decide +kernel)]; exact ⟨rfl, rfl⟩))
    (fun os started H enc _ => lifted os started H enc)
end Go.Proofs.Ytpliedimdhilcaa.StackTurns
namespace Go.Proofs.Ytpliedimdhilcaa
theorem stackTurns_holds : Rows.StackTurnsSaid := StackTurns.over
#print axioms stackTurns_holds
end Go.Proofs.Ytpliedimdhilcaa
