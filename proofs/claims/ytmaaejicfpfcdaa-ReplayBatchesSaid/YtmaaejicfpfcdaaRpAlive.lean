/- The document's example of a batch; the law 'ReplayReads' walks on these. -/
import Derived.Test.YtmaaejicfpfcdaaRpRead
import Derived.Test.YtmaaejicfpfcdaaRpRef
import Derived.Test.YtmaaejicfpfcdaaRpSame
namespace Go.Mun
open Go Go.RowKit Go.Proofs

theorem num22 (n : Int) (w : World) : Calls Try.prog 37 #[.int .i64 n] w fun e w' => e = .returned (.int .i64 n) ∧ w = w' := by
  go_enter Try.func37, Try.ntmps37
  go_wp2
  go_ret
  exact ⟨rfl, rfl⟩
theorem bytes13 {n : Int} (h0 : 0 ≤ n) (h1 : n ≤ 2147483647) : (⟨2, false, [], [], n⟩ : Rec).bytes.length = 13 := by
  rw [bytes_length, body_end _ _ _ _ h0 h1]
  simp [fourB_length]
set_option maxRecDepth 100000 in
theorem Batch_nil (w : World) : Calls Try.prog 36 #[.slice none 0 0] w fun e w' => ∃ A c, e = .returned (.tuple #[.slice A 13 c, .int .i64 0]) ∧ Below w.heap.size w w' := by
  have hT := bytesTyR
  have H13 := Lib.hid (bytes13 (n := 0) (by omega) (by omega))
  have HE := Lib.hid (err_end (key := []) (value := []) (del := false) (n := 0) (by omega) (by omega))
  go_enter Try.func36, Try.ntmps36
  go_wp2
  go_loopw [4, 13] (fun vo i wr => vo = .slice none 0 0 ∧ i = .int .i64 0 ∧ wr = w) (fun _ _ _ => 0)
  case atStart => exact ⟨rfl, rfl, rfl⟩
  case round =>
    obtain ⟨rfl, rfl, rfl⟩ := hrel
    go_wp2_with (first
      | (go_at_call 20; refine (Pack_ok ⟨2, false, [], [], 0⟩ _ _ _ (Bytes.nil _) (Bytes.nil _) (by simp) (by simp) HE.out).mono ?_; rintro e w3 ⟨v3, rfl, hb3, ho3⟩; rw [H13.out] at ho3)
      | (at_builtin; refine wpList_append_bytes rfl (.tmp 43) (.tmp 44) _ rfl wr.heap.size hT (xs := []) rfl (own_zero _ _) rfl (Bytes.own ho3) (by rw [H13.out]; omega) hb3.size ?_; intro v4 w4 ho4 hg4 hat4)
      | fail)
    go_ret2
    rw [H13.out, Nat.zero_add] at ho4
    obtain ⟨A, c, rfl⟩ := own_sl ho4
    exact ⟨A, c, rfl, below_own hb3 (own_zero _ _) (Nat.le_refl _) hg4 hb3.size⟩
set_option maxRecDepth 100000 in
theorem alive22 (w : World) : Calls Try.prog 26 #[] w fun e w' => e = .returned (.bool true) ∧ Below w.heap.size w w' := by
  go_enter Try.func26, Try.ntmps26
  go_wp2_with (first
    | (go_at_call 36; refine (Batch_nil _).mono ?_; rintro e w1 ⟨A, c, rfl, hb1⟩)
    | (go_at_call 37; refine (num22 _ _).mono ?_; rintro e w2 ⟨rfl, rfl⟩)
    | fail)
  go_ret
  exact ⟨rfl, hb1⟩
end Go.Mun
