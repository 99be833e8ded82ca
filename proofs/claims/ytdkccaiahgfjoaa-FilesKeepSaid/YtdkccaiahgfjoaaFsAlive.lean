/- The example of chapter 19. -/
import Derived.Test.YtdkccaiahgfjoaaFsIn
import Derived.Test.YtdkccaiahgfjoaaLit
namespace Go.Mun
open Go Go.RowKit Go.Proofs Go.Maps

theorem Bools.nil (w : World) : Bools w (.slice none 0 0) [] := ⟨none, 0, 0, rfl, rfl, Nat.le_refl _, by decide, Rd.nil _ _⟩
theorem u8Ty : Try.prog.underlying 5 = some (.int .u8) := Try.underlying5
theorem u8sTy : Try.prog.underlying 26 = some (.slice 5) := Try.underlying26
/-- a literal's block is nobody's -/
theorem Free.lit {k : Nat} {o : Own} {w : World} {n c : Nat} (ho : OwnIn o w) : Free o k (.slice (some ⟨w.heap.size, 0, none⟩) n c) :=
  Free.new ho fun ad e => by injection e with e; subst e; exact Nat.le_refl _
set_option maxRecDepth 100000 in
set_option maxHeartbeats 2000000 in
theorem alive_any (w : World) : Calls Try.prog 9 #[] w fun e w' => e = .returned (.bool true) ∧ Below w.heap.size w w' := by
  have hbT := bytesTyC
  have N0 := Lib.hid (New_in (w0 := w) (w := w) (o := fun _ => none) 0 (fun _ _ => rfl) (Below.refl _ _) (fun _ _ => rfl))
  go_enter Try.func9, Try.ntmps9
  go_wp2_with (first
    | (go_at_call 10; (with_reducible refine N0.out.mono ?_); rintro e w1 ⟨p, o1, rfl, h1, T1⟩)
    | ((with_reducible refine gd_rowC ?_); refine wpList_row_val (v := .int .u8 120) rfl (.const (.int .u8 120)) rfl hbT (by decide) rfl rfl ?_; intro w2 hx2 hb2 hl2)
    | ((with_reducible refine gd_convert ?_); refine wpList_lit rfl (.tmp 10) rfl u8sTy u8Ty rfl hx2 (l := [120]) rfl rfl (Nat.le_refl _) (by decide) ?_; intro wl hgl hsl B2; have hbl := below_blk hb2 hb2.size hgl (Nat.le_refl _); have h2 := h1.ext hbl; have F2 := Lib.hid (Free.lit (k := 0) (n := 1) (c := 1) h1.own))
    | (go_at_call 11; (with_reducible refine (App_in h2 [97] (by decide) _ [120] B2 F2.out (by decide) (by decide) (by decide)).mono ?_); rintro e w3 ⟨rfl, o3, h3, T3⟩)
    | (go_at_call 13; (with_reducible refine (Sync_in h3 [97] (by decide) (by decide) (by decide)).mono ?_); rintro e w4 ⟨rfl, o4, h4, T4⟩)
    | (go_at_call 19; (with_reducible refine (Plan_in h4 0 0 (.slice none 0 0) [] (by decide) (by decide) (Bools.nil _) Free.nil (by decide)).mono ?_); rintro e w5 ⟨rfl, o5, h5, T5⟩)
    | (go_at_call 15; (with_reducible refine (Dir_in h5 (by decide) (by decide)).mono ?_); rintro e w6 ⟨rfl, o6, h6, T6⟩)
    | (go_at_call 26; (with_reducible refine (Dead_in h6).mono ?_); rintro e w7 ⟨rfl, rfl⟩)
    | (go_at_call 20; (with_reducible refine (Start_in h6).mono ?_); rintro e w8 ⟨rfl, h8, T8⟩)
    | (go_at_call 22; (with_reducible refine (Names_in h8 (by decide)).mono ?_); rintro e w9 ⟨v, rfl, ho9, hb9, h9⟩; obtain ⟨A9, c9, rfl⟩ := row_slC ho9)
    | fail)
  go_ret
  exact ⟨rfl, h9.below⟩
end Go.Mun
