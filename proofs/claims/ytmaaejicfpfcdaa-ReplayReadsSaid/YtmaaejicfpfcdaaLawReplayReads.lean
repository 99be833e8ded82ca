/- 'ReplayReads' answers true at every input, and leaves what it was given. No condition. -/
import Derived.Test.YtmaaejicfpfcdaaRpAlive
import Derived.Test.YtmaaejicfpfcdaaLaw
import Derived.Test.YtmaaejicfpfcdaaRows
namespace Go.Proofs.Ytmaaejicfpfcdaa.ReplayReads
open Go Go.RowKit Go.Mun Go.Proofs

set_option maxRecDepth 100000 in
set_option maxHeartbeats 4000000 in
theorem walk (v : Value) (b : List UInt8) (w : World) (hbb : Bytes w v b) :
    Calls Try.prog 10 #[v] w fun e w' => e = .returned (.bool true) ∧ Below w.heap.size w w' := by
  have hT := bytesTyR
  have CA := Lib.hid alive22
  obtain ⟨A, n, c, rfl, h1, h2, h3, h4⟩ := id hbb
  clear h4
  unfold maxLen at h3
  by_cases c1 : 6000 < n
  · have d1 : decide ((6000 : Int) < (n : Int)) = true := decide_eq_true (by omega)
    go_enter Try.func10, Try.ntmps10
    go_wp2_with (first
      | (go_at_call 26; refine (CA.out _).mono ?_; rintro e w1 ⟨rfl, hb1⟩)
      | fail)
    go_ret
    exact ⟨rfl, hb1⟩
  · have d1 : decide ((6000 : Int) < (n : Int)) = false := decide_eq_false (by omega)
    have hl : b.length ≤ 6000 := by omega
    have HB := Lib.hid hbb
    obtain ⟨x, hx⟩ : ∃ x, x = batches b := ⟨_, rfl⟩
    have CR := Lib.hid (fun v w h => Read_any v b w h (by omega))
    have CF := Lib.hid (fun v w h => ReadBatches_any v b w h (by omega))
    rw [← hx] at CR CF
    clear hx hbb
    go_enter Try.func10, Try.ntmps10
    go_wp2_with (first
      | (go_at_call 26; refine (CA.out _).mono ?_; rintro e w1 ⟨rfl, hb1⟩)
      | (at_builtin; refine wpList_append_bytes rfl (.const (.slice none 0 0)) (.tmp 18) _ rfl w1.heap.size hT (xs := []) rfl (own_zero _ _) rfl (HB.out.ext hb1) (by omega) (Nat.le_refl _) ?_; intro v2 w2 ho2 hg2 hat2; have hb2 := below_own (Below.refl w1.heap.size w1) (own_zero _ _) (Nat.le_refl _) hg2 (Nat.le_refl _); have hB2 := below_step hb1 hb2)
      | (go_at_call 27; refine (CR.out _ _ (by have := Bytes.own ho2; rwa [List.nil_append] at this)).mono ?_; rintro e w3 ⟨v3, rfl, hs3, hb3⟩; have hB3 := below_step hB2 hb3)
      | (go_at_call 28; refine (CF.out _ _ (HB.out.ext hB3)).mono ?_; rintro e w4 ⟨v4, rfl, hs4, hb4⟩; have hs34 := hs3.ext (rSlice_stays rOp_stays) hb4; have hB4 := below_step hB3 hb4)
      | (go_at_call 29; refine (Batches_true _ _ _ _ _ hs34 hs4 (SameLL.refl _)).mono ?_; rintro e w5 ⟨rfl, hb5⟩; have hB5 := below_step hB4 hb5)
      | fail)
    go_ret
    exact ⟨rfl, hB5⟩
open Go.ChangeShapes Go.WideShapes Go.ChangeAt

set_option maxRecDepth 100000 in
theorem lifted (os : Os) (started : os.Started) (H : Type) (enc : TypeId × Value → H) :
    ReturnsInHanded {} Try.checked os 10 .any (Rows.replayReadsSpec.pre6 enc Try.prog Try.f10 Rows.replayReadsRow.domain false) (Rows.replayReadsSpec.post enc Try.prog Try.f10 false true false false) := by
  refine law_lift (C := Try.checked) (ts := [24]) (tb := 4) (by kernel_rfl) started (by kernel_rfl) Try.func10
    (ChangeSpec.witness6 (enc := enc) (C := Try.checked) false ⟨#[], #[.slice none 0 0], []⟩ 8 (by kernel_rfl) (by kernel_rfl) (by kernel_rfl) (by kernel_rfl))
    (by kernel_rfl) (by kernel_rfl) (by kernel_rfl) (by kernel_rfl) Try.underlying4 rfl (fun ds h => by match ds, h with | [_], _ => rfl) ?_
  intro W vs hl h
  match vs, hl with
  | [v0], _ =>
    obtain ⟨b, hb⟩ := arg_bytes Try.underlying24 Try.underlying5 (by kernel_rfl) (h 0 _ v0 rfl rfl)
    exact walk _ b W hb

theorem over : Rows.replayReadsRow.holds Try.pinned (OpenSpec.ofChange Rows.replayReadsSpec) :=
  OpenClaim.holds_of_wide 10 Try.f10 rfl rfl rfl rfl rfl rfl rfl ⟨rfl, rfl, rfl, rfl, rfl⟩ rfl rfl rfl rfl rfl (by kernel_rfl) Try.func10 (by kernel_rfl)
    (of_decide_eq_true (by kernel_rfl)) (by unfold Func.isWrapper; first | (rw [if_pos (by decide +kernel)]; kernel_rfl) | (rw [if_neg (by decide +kernel)]; exact ⟨rfl, rfl⟩))
    (fun os started H enc _ => lifted os started H enc)
end Go.Proofs.Ytmaaejicfpfcdaa.ReplayReads
namespace Go.Proofs.Ytmaaejicfpfcdaa
theorem replayReads_holds : Rows.ReplayReadsSaid := ReplayReads.over
#print axioms replayReads_holds
end Go.Proofs.Ytmaaejicfpfcdaa
