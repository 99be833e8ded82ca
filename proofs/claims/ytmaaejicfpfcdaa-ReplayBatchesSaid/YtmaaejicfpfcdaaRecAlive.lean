/- munimentslaw21.alive answers true. -/
import Derived.Test.YtmaaejicfpfcdaaRecWalks
namespace Go.Mun
open Go Go.RowKit Go.Proofs

theorem num21 (n : Int) (w : World) : Calls Try.prog 21 #[.int .i64 n] w fun e w' => e = .returned (.int .i64 n) ∧ w = w' := by
  go_enter Try.func21, Try.ntmps21
  go_wp2
  go_ret
  exact ⟨rfl, rfl⟩

/-- a row of the call's own, as a slice value of its length -/
theorem own_slice {w : World} {base : Nat} {e : TypeId} {n : Nat} {v : Value} {l : List UInt8} (h : w.ownsRow base e 1 v n (bv l)) : ∃ A c, v = .slice A n c ∧ l.length = n ∧ Bytes w (.slice A n c) l := by
  obtain ⟨A, m, c, rfl, h1, h2⟩ := Bytes.own h
  have hn : l.length = n := by have := h.1; rw [bv_length] at this; omega
  obtain rfl : m = n := by omega
  exact ⟨A, c, rfl, hn, A, m, c, rfl, h1, h2⟩

set_option maxRecDepth 100000 in
set_option maxHeartbeats 1000000 in
theorem alive21 (w : World) : Calls Try.prog 19 #[] w fun e w' => e = .returned (.bool true) ∧ Below w.heap.size w w' := by
  have h13 : (Rec.bytes ⟨2, false, [], [], 3⟩).length = 13 := by rw [bytes_length, body_end _ _ _ _ (by omega) (by omega)]; rfl
  have H13 := Lib.hid h13
  clear h13
  go_enter Try.func19, Try.ntmps19
  go_wp2_with fail
  refine (Pack_any ⟨2, false, [], [], 3⟩ _ _ w (Bytes.nil _) (Bytes.nil _) (by simp) (by simp)).mono ?_
  rintro e w2 ⟨hb, ⟨h0, _⟩ | ⟨_, v, rfl, ho⟩⟩
  · exact absurd (err_end _ _ _ _ (by omega) (by omega)) h0
  · rw [H13.out] at ho
    obtain ⟨A, c, rfl, _, _⟩ := own_slice ho
    clear ho
    go_wp2_with (go_at_call 21; refine (num21 0 _).mono ?_; rintro e w' ⟨rfl, rfl⟩)
    go_ret
    exact ⟨rfl, hb⟩
end Go.Mun
