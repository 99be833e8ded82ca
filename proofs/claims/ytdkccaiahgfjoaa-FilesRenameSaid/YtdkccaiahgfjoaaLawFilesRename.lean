/- 'FilesRename' answers true at every input, and leaves what it was given. No condition. -/
import Derived.Test.YtdkccaiahgfjoaaFsRnA
import Derived.Test.YtdkccaiahgfjoaaLaw
import Derived.Test.YtdkccaiahgfjoaaRows
namespace Go.Proofs.Ytdkccaiahgfjoaa.FilesRename
open Go Go.RowKit Go.Mun Go.Proofs Go.Maps

set_option maxRecDepth 100000 in
set_option maxHeartbeats 4000000 in
theorem walk (va vb : Value) (a b : List UInt8) (b2 b3 b4 : Bool) (w : World) (hva : Bytes w va a) (hvb : Bytes w vb b) :
    Calls Try.prog 7 #[va, vb, .bool b2, .bool b3, .bool b4] w fun e w' => e = .returned (.bool true) ∧ Below w.heap.size w w' := by
  have CA := Lib.hid alive_any
  by_cases hh : 1 ≤ a.length ∧ a.length ≤ 300 ∧ b.length ≤ 300
  · obtain ⟨h1, h2, h3⟩ := hh
    cases b2 <;> cases b3 <;> cases b4
    · exact walk_fff va vb a b w hva hvb h1 h2 h3
    · exact walk_fft va vb a b w hva hvb h1 h2 h3
    · exact walk_ftf va vb a b w hva hvb h1 h2 h3
    · exact walk_ftt va vb a b w hva hvb h1 h2 h3
    · exact walk_tff va vb a b w hva hvb h1 h2 h3
    · exact walk_tft va vb a b w hva hvb h1 h2 h3
    · exact walk_ttf va vb a b w hva hvb h1 h2 h3
    · exact walk_ttt va vb a b w hva hvb h1 h2 h3
  obtain ⟨A1, n1, c1, rfl, a1, a2, a3, a4⟩ := id hva
  obtain ⟨A2, n2, c2, rfl, b1, b2', b3', b4'⟩ := id hvb
  subst a1 b1
  clear a4 b4' hva hvb
  by_cases d1 : a.length < 1
  · have e1 : decide ((a.length : Int) < 1) = true := decide_eq_true (by omega)
    go_enter Try.func7, Try.ntmps7
    go_wp2_with (first
      | (go_at_call 9; (with_reducible refine (CA.out _).mono ?_); rintro e w1 ⟨rfl, hb1⟩)
      | fail)
    go_ret
    exact ⟨rfl, hb1⟩
  have e2 : decide ((a.length : Int) < 1) = false := decide_eq_false (by omega)
  by_cases d2 : 300 < a.length
  · have e1 : decide ((300 : Int) < (a.length : Int)) = true := decide_eq_true (by omega)
    go_enter Try.func7, Try.ntmps7
    go_wp2_with (first
      | (go_at_call 9; (with_reducible refine (CA.out _).mono ?_); rintro e w1 ⟨rfl, hb1⟩)
      | fail)
    go_ret
    exact ⟨rfl, hb1⟩
  have e3 : decide ((300 : Int) < (a.length : Int)) = false := decide_eq_false (by omega)
  by_cases d3 : 300 < b.length
  · have e1 : decide ((300 : Int) < (b.length : Int)) = true := decide_eq_true (by omega)
    go_enter Try.func7, Try.ntmps7
    go_wp2_with (first
      | (go_at_call 9; (with_reducible refine (CA.out _).mono ?_); rintro e w1 ⟨rfl, hb1⟩)
      | fail)
    go_ret
    exact ⟨rfl, hb1⟩
  have e4 : decide ((300 : Int) < (b.length : Int)) = false := decide_eq_false (by omega)
  exact absurd ⟨by omega, by omega, by omega⟩ hh
open Go.ChangeShapes Go.WideShapes Go.ChangeAt

set_option maxRecDepth 100000 in
theorem lifted (os : Os) (started : os.Started) (H : Type) (enc : TypeId × Value → H) :
    ReturnsInHanded {} Try.checked os 7 .any (Rows.filesRenameSpec.pre6 enc Try.prog Try.f7 Rows.filesRenameRow.domain false) (Rows.filesRenameSpec.post enc Try.prog Try.f7 false true false false) := by
  refine law_lift (C := Try.checked) (ts := [26, 26, 4, 4, 4]) (tb := 4) (by kernel_rfl) started (by kernel_rfl) Try.func7
    (ChangeSpec.witness6 (enc := enc) (C := Try.checked) false ⟨#[], #[.slice none 0 0, .slice none 0 0, .bool true, .bool true, .bool true], []⟩ 8 (by kernel_rfl) (by kernel_rfl) (by kernel_rfl) (by kernel_rfl))
    (by kernel_rfl) (by kernel_rfl) (by kernel_rfl) (by kernel_rfl) Try.underlying4 rfl (fun ds h => by match ds, h with | [_, _, _, _, _], _ => rfl) ?_
  intro W vs hl h
  match vs, hl with
  | [v0, v1, v2, v3, v4], _ =>
    obtain ⟨va, hva⟩ := arg_bytes Try.underlying26 Try.underlying5 (by kernel_rfl) (h 0 _ v0 rfl rfl)
    obtain ⟨vb, hvb⟩ := arg_bytes Try.underlying26 Try.underlying5 (by kernel_rfl) (h 1 _ v1 rfl rfl)
    obtain ⟨b2, rfl⟩ := arg_bool Try.underlying4 (h 2 _ v2 rfl rfl)
    obtain ⟨b3, rfl⟩ := arg_bool Try.underlying4 (h 3 _ v3 rfl rfl)
    obtain ⟨b4, rfl⟩ := arg_bool Try.underlying4 (h 4 _ v4 rfl rfl)
    exact walk _ _ va vb b2 b3 b4 W hva hvb

theorem over : Rows.filesRenameRow.holds Try.pinned (OpenSpec.ofChange Rows.filesRenameSpec) :=
  OpenClaim.holds_of_wide 7 Try.f7 rfl rfl rfl rfl rfl rfl rfl ⟨rfl, rfl, rfl, rfl, rfl⟩ rfl rfl rfl rfl rfl (by kernel_rfl) Try.func7 (by kernel_rfl)
    (of_decide_eq_true (by kernel_rfl)) (by unfold Func.isWrapper; first | (rw [if_pos (by decide +kernel)]; kernel_rfl) | (rw [if_neg (by decide +kernel)]; exact ⟨rfl, rfl⟩))
    (fun os started H enc _ => lifted os started H enc)
end Go.Proofs.Ytdkccaiahgfjoaa.FilesRename
namespace Go.Proofs.Ytdkccaiahgfjoaa
theorem filesRename_holds : Rows.FilesRenameSaid := FilesRename.over
#print axioms filesRename_holds
end Go.Proofs.Ytdkccaiahgfjoaa
