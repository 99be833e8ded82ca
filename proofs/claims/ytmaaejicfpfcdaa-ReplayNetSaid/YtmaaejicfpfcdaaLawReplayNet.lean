/- 'ReplayNet' answers true at every input, and leaves what it was given. No condition. -/
import Derived.Test.YtmaaejicfpfcdaaNetFit
import Derived.Test.YtmaaejicfpfcdaaNetPairs
import Derived.Test.YtmaaejicfpfcdaaLaw
import Derived.Test.YtmaaejicfpfcdaaRows
namespace Go.Proofs.Ytmaaejicfpfcdaa.ReplayNet
open Go Go.RowKit Go.Mun Go.Proofs

/-- a guard: a row is built -/
theorem gd_row {P : Program} {ops : Array Oper} {Q : Exit → Act → World → Prop} {d : Option Tmp} {t : TypeId} {n : Nat} {parts : Array (Nat × Operand)} {ty : TypeId} {p : String} {af : Array Edge} {g : Option (Nat × Bool)} {rest : List Oper} {a : Act} {w : World}
    (h : wpList P ops Q (⟨d, .buildSlice t n parts, ty, p, af, g⟩ :: rest) a w) : wpList P ops Q (⟨d, .buildSlice t n parts, ty, p, af, g⟩ :: rest) a w := h
set_option maxRecDepth 100000 in
theorem walk_big1 (v1 v2 : Value) (l m : List Rec) (w : World) (hl : SliceOf 3 rOp w v1 l) (hm : SliceOf 3 rOp w v2 m) (hs1 : ¬ SmallL l) :
    Calls Try.prog 14 #[v1, v2] w fun e w' => e = .returned (.bool true) ∧ Below w.heap.size w w' := by
  have CA := Lib.hid alive22
  have tkB : True := trivial
  go_enter Try.func14, Try.ntmps14
  go_wp2_with (first
    | (go_at_call 26; refine (CA.out _).mono ?_; rintro e w1 ⟨rfl, hb1⟩; have hl1 := hl.ext rOp_stays hb1; have hm1 := hm.ext rOp_stays hb1)
    | (go_at_call 30; have _t := tkB; refine (Big_yes _ _ _ hl1 hs1).mono ?_; clear tkB; rintro e w2 ⟨rfl, rfl⟩)
    | fail)
  go_ret
  exact ⟨rfl, hb1⟩
set_option maxRecDepth 100000 in
theorem walk_big2 (v1 v2 : Value) (l m : List Rec) (w : World) (hl : SliceOf 3 rOp w v1 l) (hm : SliceOf 3 rOp w v2 m) (hs1 : SmallL l) (hs2 : ¬ SmallL m) :
    Calls Try.prog 14 #[v1, v2] w fun e w' => e = .returned (.bool true) ∧ Below w.heap.size w w' := by
  have CA := Lib.hid alive22
  have tkB : True := trivial
  go_enter Try.func14, Try.ntmps14
  go_wp2_with (first
    | (go_at_call 26; refine (CA.out _).mono ?_; rintro e w1 ⟨rfl, hb1⟩; have hl1 := hl.ext rOp_stays hb1; have hm1 := hm.ext rOp_stays hb1)
    | (go_at_call 30; have _t := tkB; refine (Big_no _ _ _ hl1 hs1).mono ?_; clear tkB; rintro e w2 ⟨rfl, rfl⟩)
    | (go_at_call 30; refine (Big_yes _ _ _ hm1 hs2).mono ?_; rintro e w2 ⟨rfl, rfl⟩)
    | fail)
  go_ret
  exact ⟨rfl, hb1⟩
set_option maxRecDepth 100000 in
set_option maxHeartbeats 4000000 in
theorem walk (v1 v2 : Value) (l m : List Rec) (w : World) (hl : SliceOf 3 rOp w v1 l) (hm : SliceOf 3 rOp w v2 m) (hs1 : SmallL l) (hs2 : SmallL m) :
    Calls Try.prog 14 #[v1, v2] w fun e w' => e = .returned (.bool true) ∧ Below w.heap.size w w' := by
  have CA := Lib.hid alive22
  have tkB : True := trivial
  have HLM := Lib.hid (And.intro hl hm)
  have hTU := outTy
  have H1 := Lib.hid hs1
  have H2 := Lib.hid hs2
  have HF := Lib.hid (net_fit hs2)
  obtain ⟨A1, n1, c1, _, e1, _⟩ := id hl
  obtain ⟨A2, n2, c2, _, e2, _⟩ := id hm
  subst e1 e2
  go_enter Try.func14, Try.ntmps14
  go_upto_region 5 with (first
    | (go_at_call 26; refine (CA.out _).mono ?_; rintro e w1 ⟨rfl, hb1⟩; have hl1 := hl.ext rOp_stays hb1; have hm1 := hm.ext rOp_stays hb1)
    | (go_at_call 30; have _t := tkB; refine (Big_no _ _ _ hl1 hs1).mono ?_; clear tkB; rintro e w2 ⟨rfl, rfl⟩)
    | (go_at_call 30; refine (Big_no _ _ _ hm1 hs2).mono ?_; rintro e w2 ⟨rfl, rfl⟩)
    | fail)
  clear hl1 hm1 hl hm hs1 hs2
  have S5 : FitL [l, m] := fun x hx => by
    simp only [List.mem_cons, List.not_mem_nil, or_false] at hx
    rcases hx with rfl | rfl
    · exact ⟨by have := H1.out.1; omega, H1.out.fit⟩
    · exact ⟨by have := H2.out.1; omega, H2.out.fit⟩
  have HS5 := Lib.hid S5
  have HS6 := Lib.hid (show ∀ x ∈ [l, netL m], x.length ≤ 100 ∧ ∀ o ∈ x, o.value.length ≤ 1000000 from fun x hx => by
    simp only [List.mem_cons, List.not_mem_nil, or_false] at hx
    rcases hx with rfl | rfl
    · exact ⟨by have := H1.out.1; omega, H1.out.vals⟩
    · exact HF.out)
  clear S5
  go_upto_region 6 with (first
    | (refine wpList_row_two rfl (.tmp 22) (.tmp 23) rfl hTU (by decide) rfl rfl rfl rfl ?_; intro w3 hx3 hb3 hl3; have hB3 := below_step hb1 hb3; have hs3 := two_rows hx3 (HLM.out.1.ext rOp_stays hB3) (HLM.out.2.ext rOp_stays hB3))
    | (go_at_call 32; refine (Live_any _ [l, m] _ hs3 (by simp) (fun x hx => (HS5.out x hx).1) (fun x hx o ho => ((HS5.out x hx).2 o ho).2)).mono ?_; rintro e w4 ⟨v4, rfl, hs4, hb4⟩; have hB4 := below_step hB3 hb4)
    | fail)
  clear hs3 hx3 hb3
  go_upto_region 7 with (first
    | (go_at_call 33; refine (Net_any _ m _ (HLM.out.2.ext rOp_stays hB4) (by have := H2.out.1; omega) H2.out.vals).mono ?_; rintro e w5 ⟨v5, rfl, hs5, hb5⟩; have hB5 := below_step hB4 hb5; obtain ⟨A5, n5, c5, _, e5, _⟩ := id hs5; subst e5)
    | (refine wpList_row_two rfl (.tmp 26) (.tmp 28) rfl hTU (by decide) rfl rfl rfl rfl ?_; intro w6 hx6 hb6 hl6; have hB6 := below_step hB5 hb6; have hs6 := two_rows hx6 (HLM.out.1.ext rOp_stays hB6) (hs5.ext rOp_stays hb6))
    | (go_at_call 32; refine (Live_any _ [l, netL m] _ hs6 (by simp) (fun x hx => (HS6.out x hx).1) (fun x hx => (HS6.out x hx).2)).mono ?_; rintro e w7 ⟨v7, rfl, hs7, hb7⟩; have hB7 := below_step hB6 hb7)
    | fail)
  rw [live_net] at hs7
  have hb47 := below_step hb5 (below_step hb6 hb7)
  have hs47 := hs4.ext rPair_stays hb47
  clear hs5 hs6 hx6 hb5 hb6 hb7 hs4
  have tkL : True := trivial
  go_wp2_with (first
    | (go_at_call 34; have _t := tkL; refine (SamePairs_true _ _ _ _ hs47 hs7).mono ?_; clear tkL; rintro e w8 ⟨rfl, hb8⟩; have hB8 := below_step hB7 hb8; have hs48 := hs47.ext rPair_stays hb8)
    | ((with_reducible refine gd_row ?_); refine wpList_row_two_want (by rfl) (.tmp 36) (.tmp 37) rfl hTU rfl rfl rfl rfl ?_; intro w9 hx9 hb9 hl9; have hB9 := below_step hB8 hb9; have hs9 := two_rows hx9 (HLM.out.1.ext rOp_stays hB9) (HLM.out.2.ext rOp_stays hB9))
    | (go_at_call 35; refine (DLive_any _ [l, m] _ hs9 (by simp) HS5.out).mono ?_; rintro e w10 ⟨v10, rfl, hs10, hb10⟩; have hB10 := below_step hB9 hb10; have hs410 := (hs48.ext rPair_stays hb9).ext rPair_stays hb10)
    | (go_at_call 34; refine (SamePairs_true _ _ _ _ hs410 hs10).mono ?_; rintro e w11 ⟨rfl, hb11⟩; have hB11 := below_step hB10 hb11)
    | fail)
  go_ret
  exact ⟨rfl, hB11⟩

open Go.ChangeShapes Go.WideShapes Go.ChangeAt

set_option maxRecDepth 100000 in
theorem lifted (os : Os) (started : os.Started) (H : Type) (enc : TypeId × Value → H) :
    ReturnsInHanded {} Try.checked os 14 .any (Rows.replayNetSpec.pre6 enc Try.prog Try.f14 Rows.replayNetRow.domain false) (Rows.replayNetSpec.post enc Try.prog Try.f14 false true false false) := by
  refine law_lift (C := Try.checked) (ts := [49, 49]) (tb := 4) (by kernel_rfl) started (by kernel_rfl) Try.func14
    (ChangeSpec.witness6 (enc := enc) (C := Try.checked) false ⟨#[], #[.slice none 0 0, .slice none 0 0], []⟩ 8 (by kernel_rfl) (by kernel_rfl) (by kernel_rfl) (by kernel_rfl))
    (by kernel_rfl) (by kernel_rfl) (by kernel_rfl) (by kernel_rfl) Try.underlying4 rfl (fun ds h => by match ds, h with | [_, _], _ => rfl) ?_
  intro W vs hl h
  match vs, hl with
  | [v0, v1], _ =>
    have hl := h 0 _ v0 rfl rfl
    have hm := h 1 _ v1 rfl rfl
    obtain ⟨ls, hl'⟩ := arg_slice Try.underlying49 (by kernel_rfl) (opens_op enc) hl
    obtain ⟨ms, hm'⟩ := arg_slice Try.underlying49 (by kernel_rfl) (opens_op enc) hm
    by_cases hs1 : SmallL ls
    · by_cases hs2 : SmallL ms
      · exact walk _ _ ls ms W hl' hm' hs1 hs2
      · exact walk_big2 _ _ ls ms W hl' hm' hs1 hs2
    · exact walk_big1 _ _ ls ms W hl' hm' hs1

theorem over : Rows.replayNetRow.holds Try.pinned (OpenSpec.ofChange Rows.replayNetSpec) :=
  OpenClaim.holds_of_wide 14 Try.f14 rfl rfl rfl rfl rfl rfl rfl ⟨rfl, rfl, rfl, rfl, rfl⟩ rfl rfl rfl rfl rfl (by kernel_rfl) Try.func14 (by kernel_rfl)
    (of_decide_eq_true (by kernel_rfl)) (by unfold Func.isWrapper; first | (rw [if_pos (by decide +kernel)]; kernel_rfl) | (rw [if_neg (by decide +kernel)]; exact ⟨rfl, rfl⟩))
    (fun os started H enc _ => lifted os started H enc)
end Go.Proofs.Ytmaaejicfpfcdaa.ReplayNet
namespace Go.Proofs.Ytmaaejicfpfcdaa
theorem replayNet_holds : Rows.ReplayNetSaid := ReplayNet.over
#print axioms replayNet_holds
end Go.Proofs.Ytmaaejicfpfcdaa
