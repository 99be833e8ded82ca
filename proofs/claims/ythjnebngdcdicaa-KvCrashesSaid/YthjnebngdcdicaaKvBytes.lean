/- How many bytes all files have. -/
import Derived.Test.YthjnebngdcdicaaKvSize
namespace Go.Mun
open Go Go.RowKit Go.Proofs Go.Maps

theorem Up.names {k p n B K L : Nat} {M : FSs} {S : PLB} {o : Own} {w0 w : World} (h : Up k p M S n B K L o w0 w) : (namesM M = [] ∧ (readM M cLog).length = 0) ∨ namesM M = [cLog] := by
  have e : namesM M = M.now.map (·.1) := by unfold namesM; rw [h.dead]; rfl
  rcases h.now with ⟨h1, h2⟩ | ⟨i, h1⟩
  · exact .inl ⟨by rw [e, h1]; rfl, by rw [h2]; rfl⟩
  · exact .inr (by rw [e, h1]; rfl)
theorem Up.small {k p n B K L : Nat} {M : FSs} {S : PLB} {o : Own} {w0 w : World} (h : Up k p M S n B K L o w0 w) : M.now.length ≤ 100000 := by
  rcases h.now with ⟨h1, _⟩ | ⟨i, h1⟩ <;> rw [h1] <;> simp
set_option maxRecDepth 100000 in
set_option maxHeartbeats 4000000 in
theorem total_any {k p n B K L : Nat} {M : FSs} {S : PLB} {o : Own} {w0 w : World} (h : Up k p M S n B K L o w0 w) (hB : B ≤ 100000000) (hL : L ≤ 140737488355328) :
    Calls Try.prog 21 #[.pointer (some ⟨p, 0, none⟩)] w fun e w' => e = .returned (.int .i64 ((readM M cLog).length : Nat)) ∧ Below w.heap.size w w' := by
  have CN := Lib.hid (Names_in h.fs h.small)
  have CR := Lib.hid (fun w1 (hb : Below w.heap.size w w1) => Read_in (h.fs.ext hb) cLog (by decide) hL)
  have hz := h.read
  obtain ⟨z, hze⟩ : ∃ z, z = (readM M cLog).length := ⟨_, rfl⟩
  rw [← hze] at hz ⊢
  rcases h.names with ⟨e, ez⟩ | e
  · rw [e] at CN
    rw [← hze] at ez
    subst ez
    clear h hze e
    go_enter Try.func21, Try.ntmps21
    go_wp2_with (first
      | (go_at_call 36; (refine CN.out.mono ?_); rintro e w1 ⟨v1, rfl, ho1, hb1, hf1⟩; obtain ⟨A1, c1, rfl⟩ := row_slC ho1)
      | fail)
    go_loopw [3, 5] (fun sv iv wr => sv = .int .i64 0 ∧ iv = .int .i64 0 ∧ Below w.heap.size w wr) (fun _ _ _ => 0)
    case atStart => exact ⟨rfl, rfl, hb1⟩
    case round =>
      obtain ⟨rfl, rfl, hBr⟩ := hrel
      go_wp2
      go_ret
      exact ⟨rfl, hBr⟩
  · rw [e] at CN
    have HZE := Lib.hid hze
    clear h e hze
    go_enter Try.func21, Try.ntmps21
    go_wp2_with (first
      | (go_at_call 36; (refine CN.out.mono ?_); rintro e w1 ⟨v1, rfl, ho1, hb1, hf1⟩; obtain ⟨A1, c1, rfl⟩ := row_slC ho1)
      | fail)
    go_loopw [3, 5] (fun sv iv wr => ∃ k : Nat, k ≤ 1 ∧ iv = .int .i64 k ∧ sv = .int .i64 ((k * z : Nat) : Int) ∧ Below w1.heap.size w1 wr) (fun _ iv _ => 1 - (RowKit.intOf iv).toNat)
    case atStart => exact ⟨0, Nat.zero_le _, rfl, by rw [Nat.zero_mul]; rfl, Below.refl _ _⟩
    case round =>
      obtain ⟨k, hk, rfl, rfl, hBr⟩ := hrel
      have hB := below_step hb1 hBr
      by_cases hlt : k < 1
      · obtain rfl : k = 0 := by omega
        obtain ⟨h4, rfl⟩ := own_at ho1 (show 0 < 1 by decide)
        have hc := (own_ext ho1 hBr).cellAt 0 (by simp)
        go_wp2_with (first
          | (go_at_call 29; (refine (CR.out _ hB).mono ?_); rintro e w3 ⟨v3, rfl, ho3, hb3, _⟩; obtain ⟨A3, c3, rfl⟩ := row_slC ho3)
          | fail)
        go_roundw
        case rel => exact ⟨1, Nat.le_refl _, rfl, by rw [← HZE.out, Nat.one_mul]; congr 1; unfold wrap64; omega, below_step hBr hb3⟩
        case measure => simp [RowKit.intOf]
      · obtain rfl : k = 1 := by omega
        go_wp2
        go_ret
        exact ⟨by rw [Nat.one_mul]; rfl, hB⟩
set_option maxRecDepth 100000 in
set_option maxHeartbeats 4000000 in
theorem Bytes_up {k j p q n B N K L : Nat} {M : FSs} {S : PLB} {clean : Bool} {o : Own} {w0 w : World} (h : UpK k j p q M S clean n B N K L o w0 w) (hB : B ≤ 100000000) (hL : L ≤ 140737488355328) :
    Calls Try.prog 17 #[.pointer (some ⟨q, 0, none⟩)] w fun e w' => e = .returned (.int .i64 ((readM M cLog).length : Nat)) ∧ Below w.heap.size w w' := by
  obtain ⟨bm, hx, _⟩ := headK_of h.kv
  have CN := Lib.hid (Names_in h.fs h.up.small)
  have CR := Lib.hid (fun w1 (hb : Below w.heap.size w w1) => Read_in (h.fs.ext hb) cLog (by decide) hL)
  have hz := h.up.read
  have y0 := hx.blk.cellv (i := 0) rfl
  have HX := Lib.hid (fun w1 (hb : Below w.heap.size w w1) => (hx.ext hb).blk.cellv (i := 0) rfl)
  obtain ⟨z, hze⟩ : ∃ z, z = (readM M cLog).length := ⟨_, rfl⟩
  rw [← hze] at hz ⊢
  rcases h.up.names with ⟨e, ez⟩ | e
  · rw [e] at CN
    rw [← hze] at ez
    subst ez
    clear h hze e hx
    go_enter Try.func17, Try.ntmps17
    go_wp2_with (first
      | (go_at_call 36; (refine CN.out.mono ?_); rintro e w1 ⟨v1, rfl, ho1, hb1, hf1⟩; obtain ⟨A1, c1, rfl⟩ := row_slC ho1)
      | fail)
    go_loopw [3, 14] (fun sv iv wr => sv = .int .i64 0 ∧ iv = .int .i64 0 ∧ Below w.heap.size w wr) (fun _ _ _ => 0)
    case atStart => exact ⟨rfl, rfl, hb1⟩
    case round =>
      obtain ⟨rfl, rfl, hBr⟩ := hrel
      go_wp2
      go_ret
      exact ⟨rfl, hBr⟩
  · rw [e] at CN
    have HZE := Lib.hid hze
    clear h e hze hx
    go_enter Try.func17, Try.ntmps17
    go_wp2_with (first
      | (go_at_call 36; (refine CN.out.mono ?_); rintro e w1 ⟨v1, rfl, ho1, hb1, hf1⟩; obtain ⟨A1, c1, rfl⟩ := row_slC ho1)
      | fail)
    go_loopw [3, 14] (fun sv iv wr => ∃ k : Nat, k ≤ 1 ∧ iv = .int .i64 k ∧ sv = .int .i64 ((k * z : Nat) : Int) ∧ Below w1.heap.size w1 wr) (fun _ iv _ => 1 - (RowKit.intOf iv).toNat)
    case atStart => exact ⟨0, Nat.zero_le _, rfl, by rw [Nat.zero_mul]; rfl, Below.refl _ _⟩
    case round =>
      obtain ⟨k, hk, rfl, rfl, hBr⟩ := hrel
      have hB := below_step hb1 hBr
      by_cases hlt : k < 1
      · obtain rfl : k = 0 := by omega
        obtain ⟨h4, rfl⟩ := own_at ho1 (show 0 < 1 by decide)
        have hc := (own_ext ho1 hBr).cellAt 0 (by simp)
        have y0 := HX.out _ hB
        go_wp2_with (first
          | (go_at_call 29; (refine (CR.out _ hB).mono ?_); rintro e w3 ⟨v3, rfl, ho3, hb3, _⟩; obtain ⟨A3, c3, rfl⟩ := row_slC ho3)
          | fail)
        go_roundw
        case rel => exact ⟨1, Nat.le_refl _, rfl, by rw [← HZE.out, Nat.one_mul]; congr 1; unfold wrap64; omega, below_step hBr hb3⟩
        case measure => simp [RowKit.intOf]
      · obtain rfl : k = 1 := by omega
        go_wp2
        go_ret
        exact ⟨by rw [Nat.one_mul]; rfl, hB⟩
end Go.Mun
