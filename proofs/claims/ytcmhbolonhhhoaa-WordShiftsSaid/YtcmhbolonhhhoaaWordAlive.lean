/- 'munimentslaw1.alive' answers true. -/
import Derived.Test.YtcmhbolonhhhoaaWordExp
import Derived.Test.YtcmhbolonhhhoaaWordFn
namespace Go.Mun
open Go Go.RowKit Go.Proofs

theorem alive1 (w : World) : Calls Try.prog 10 #[] w fun e w' => e = .returned (.bool true) ∧ Below w.heap.size w w' := by
  obtain ⟨z0, hz0⟩ : ∃ z, z = ofN 0 := ⟨_, rfl⟩
  obtain ⟨z1, hz1⟩ : ∃ z, z = ofN 1 := ⟨_, rfl⟩
  obtain ⟨zm, hzm⟩ : ∃ z, z = ofN (-1) := ⟨_, rfl⟩
  obtain ⟨z7, hz7⟩ : ∃ z, z = ofN 7 := ⟨_, rfl⟩
  obtain ⟨z8, hz8⟩ : ∃ z, z = ofN 8 := ⟨_, rfl⟩
  have C0 := Lib.hid (fun w => Of_any 0 w (by decide) (by decide))
  have C1 := Lib.hid (fun w => Of_any 1 w (by decide) (by decide))
  have Cm := Lib.hid (fun w => Of_any (-1) w (by decide) (by decide))
  have C7 := Lib.hid (fun w => Of_any 7 w (by decide) (by decide))
  have C8 := Lib.hid (fun w => Of_any 8 w (by decide) (by decide))
  have l0 : z0 < 2 ^ 256 := by rw [hz0]; exact ofN_lt _
  have l1 : z1 < 2 ^ 256 := by rw [hz1]; exact ofN_lt _
  have lm : zm < 2 ^ 256 := by rw [hzm]; exact ofN_lt _
  have l7 : z7 < 2 ^ 256 := by rw [hz7]; exact ofN_lt _
  have l8 : z8 < 2 ^ 256 := by rw [hz8]; exact ofN_lt _
  rw [← hz0] at C0
  rw [← hz1] at C1
  rw [← hzm] at Cm
  rw [← hz7] at C7
  rw [← hz8] at C8
  have CS := Lib.hid (fun w => Sub_any z0 z1 w l0 l1)
  have e1 : (z0 + 2 ^ 256 - z1) % 2 ^ 256 = zm := by rw [hz0, hz1, hzm]; decide
  rw [e1] at CS
  have hq1 := fun w => eq_word zm zm lm lm w
  have hq2 := fun w => eq_word z7 z8 l7 l8 w
  rw [decide_eq_true rfl] at hq1
  rw [decide_eq_false (by rw [hz7, hz8]; decide)] at hq2
  clear hz0 hz1 hzm hz7 hz8 e1 l0 l1 lm l7 l8
  have tok1 : True := trivial
  have tok2 : True := trivial
  have tok3 : True := trivial
  have tok4 : True := trivial
  go_enter Try.func10, Try.ntmps10
  go_wp2_with (first
    | (go_at_call 12; have _t := tok1; refine (C0.out _).mono ?_; clear tok1; rintro e w1 ⟨rfl, hb1⟩)
    | (go_at_call 12; have _t := tok2; refine (C1.out _).mono ?_; clear tok2; rintro e w2 ⟨rfl, hb2⟩)
    | (go_at_call 35; refine (CS.out _).mono ?_; rintro e w3 ⟨rfl, hb3⟩)
    | (go_at_call 12; have _t := tok3; refine (Cm.out _).mono ?_; clear tok3; rintro e w4 ⟨rfl, hb4⟩)
    | (go_at_call 12; have _t := tok4; refine (C7.out _).mono ?_; clear tok4; rintro e w5 ⟨rfl, hb5⟩)
    | (go_at_call 12; refine (C8.out _).mono ?_; rintro e w6 ⟨rfl, hb6⟩)
    | fail)
  go_ret
  exact ⟨rfl, below_step (below_step (below_step (below_step (below_step hb1 hb2) hb3) hb4) hb5) hb6⟩
end Go.Mun
