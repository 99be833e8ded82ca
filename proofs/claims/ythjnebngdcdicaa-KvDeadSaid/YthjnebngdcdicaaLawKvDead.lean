/- 'KvDead' answers true at every input, and leaves what it was given. No condition. -/
import Derived.Test.YthjnebngdcdicaaKvDk
import Derived.Test.YthjnebngdcdicaaRows
namespace Go.Proofs.Ythjnebngdcdicaa.KvDead
open Go Go.RowKit Go.Mun Go.Proofs Go.Maps

set_option maxRecDepth 100000 in
theorem walk_big1 (va vb : Value) (f : List Rec) (w : World) (ha : SliceOf 3 rOp w va f) (hs1 : ¬ SmallL f) :
    Calls Try.prog 8 #[va, vb] w fun e w' => e = .returned (.bool true) ∧ Below w.heap.size w w' := by
  have CA := Lib.hid alive23_any
  have HFA := Lib.hid (fun w' (hb : Below w.heap.size w w') => ha.ext rOp_stays hb)
  clear ha
  go_enter Try.func8, Try.ntmps8
  go_wp2_with (first
    | (go_at_call 9; (refine (CA.out _).mono ?_); rintro e wa ⟨rfl, hba⟩)
    | (go_at_call 27; (refine (Big_yes _ _ _ (HFA.out _ hba) hs1).mono ?_); rintro e wn ⟨rfl, rfl⟩)
    | fail)
  go_ret
  exact ⟨rfl, hba⟩
set_option maxRecDepth 100000 in
theorem walk_big2 (va vb : Value) (f l : List Rec) (w : World) (ha : SliceOf 3 rOp w va f) (hb : SliceOf 3 rOp w vb l) (hs1 : SmallL f) (hs2 : ¬ SmallL l) :
    Calls Try.prog 8 #[va, vb] w fun e w' => e = .returned (.bool true) ∧ Below w.heap.size w w' := by
  have CA := Lib.hid alive23_any
  have HFA := Lib.hid (fun w' (h : Below w.heap.size w w') => ha.ext rOp_stays h)
  have HLA := Lib.hid (fun w' (h : Below w.heap.size w w') => hb.ext rOp_stays h)
  have tok : True := trivial
  clear ha hb
  go_enter Try.func8, Try.ntmps8
  go_wp2_with (first
    | (go_at_call 9; (refine (CA.out _).mono ?_); rintro e wa ⟨rfl, hba⟩)
    | (go_at_call 27; have _t := tok; (refine (Big_no _ _ _ (HFA.out _ hba) hs1).mono ?_); rintro e wn ⟨rfl, rfl⟩; clear tok)
    | (go_at_call 27; (refine (Big_yes _ _ _ (HLA.out _ hba) hs2).mono ?_); rintro e wn ⟨rfl, rfl⟩)
    | fail)
  go_ret
  exact ⟨rfl, hba⟩
set_option maxRecDepth 100000 in
set_option maxHeartbeats 8000000 in
theorem walk (va vb : Value) (f l : List Rec) (w : World) (ha : SliceOf 3 rOp w va f) (hb : SliceOf 3 rOp w vb l) (hs1 : SmallL f) (hs2 : SmallL l) :
    Calls Try.prog 8 #[va, vb] w fun e w' => e = .returned (.bool true) ∧ Below w.heap.size w w' := by
  have CA := Lib.hid alive23_any
  have NU := Lib.hid num_any
  have HFA := Lib.hid (fun w' (h : Below w.heap.size w w') => ha.ext rOp_stays h)
  have HLA := Lib.hid (fun w' (h : Below w.heap.size w w') => hb.ext rOp_stays h)
  have HSF := Lib.hid hs1
  have HSL := Lib.hid hs2
  have tokA : True := trivial
  have tokB : True := trivial
  have tokC : True := trivial
  have tokD : True := trivial
  have tokE : True := trivial
  have tokF : True := trivial
  have tokP : True := trivial
  have tokS : True := trivial
  clear ha hb hs1 hs2
  go_enter Try.func8, Try.ntmps8
  go_wp2_with (first
    | (go_at_call 9; (refine (CA.out _).mono ?_); rintro e wa ⟨rfl, hba⟩; have N0 := Lib.hid (New_t (w0 := w) (w := wa) (o := fun _ => none) 0 (fun _ _ => rfl) hba (fun _ _ => rfl)))
    | (go_at_call 27; have _t := tokA; (refine (Big_no _ _ _ (HFA.out _ hba) HSF.out).mono ?_); rintro e wn ⟨rfl, rfl⟩; clear tokA)
    | (go_at_call 27; have _t := tokB; (refine (Big_no _ _ _ (HLA.out _ hba) HSL.out).mono ?_); rintro e wn ⟨rfl, rfl⟩; clear tokB)
    | (go_at_call 10; (refine N0.out.mono ?_); rintro e w1 ⟨p, o1, rfl, h1, T1⟩)
    | (go_at_call 11; (with_reducible refine (Open_nil _).mono ?_); rintro e wn ⟨rfl, rfl⟩)
    | (go_at_call 11; have _t := tokC; (refine (Open_t h1 rfl (j := 1) (by decide) (by decide)).mono ?_); rintro e w2 ⟨q, cl, o2, rfl, h2, T2⟩; clear tokC)
    | (go_at_call 12; have _t := tokD; (refine (Write_go h2 rfl (by decide) (by decide) (HFA.out _ h2.fs.below) HSF.out).mono ?_); rintro e w3 ⟨rfl, M3, ob, o3, wb, h3, hon3, Ta, Tb⟩; clear tokD)
    | (go_at_call 19; (refine (Done_t (t := 0) _ _ (PairsF.nil o3 w3) h3.fs.own (HFA.out _ h3.fs.below) (Small.nil 0) (by decide) HSF.out).mono ?_); rintro e w4 ⟨v4, rfl, P4, hb4⟩; have D4 := Dk.of (h3.ext hb4) P4; have HON := Lib.hid h3.on; clear h3 P4 Ta Tb hon3)
    | (go_at_call 24; (refine (Dk_plan D4).mono ?_); rintro e w5 ⟨rfl, o5, D5⟩)
    | (go_at_call 28; (refine (Dk_crash D5 HON.out rfl (by decide)).mono ?_); rintro e w6 ⟨rfl, o6, D6⟩; have HD6 := Lib.hid D6)
    | (go_at_call 25; (refine (Dk_dead HD6.out true rfl).mono ?_); rintro e wn ⟨rfl, rfl⟩)
    | (go_at_call 11; have _t := tokE; (refine (Open_dead HD6.out.ft.fs rfl).mono ?_); rintro e wn ⟨rfl, rfl⟩; clear tokE)
    | (go_at_call 12; have _t := tokF; (refine (Dk_woff HD6.out (by decide) (.inr rfl) (HLA.out _ HD6.out.below) HSL.out).mono ?_); rintro e w7 ⟨rfl, D7⟩; clear tokF)
    | (go_at_call 16; (refine (Dk_coff D7 (.inl rfl)).mono ?_); rintro e w8 ⟨rfl, D8⟩)
    | (go_at_call 26; (refine (Dk_start D8).mono ?_); rintro e w9 ⟨rfl, D9⟩)
    | (go_at_call 12; (refine (Dk_woff D9 (by decide) (.inl rfl) (HLA.out _ D9.below) HSL.out).mono ?_); rintro e w10 ⟨rfl, D10⟩)
    | (go_at_call 11; (refine (Dk_open D10 rfl (by decide)).mono ?_); rintro e w11 ⟨q11, rfl, c11, o11, K11, D11⟩)
    | (go_at_call 13; (refine (NU.out _ _).mono ?_); rintro e wn ⟨rfl, rfl⟩)
    | (go_at_call 22; have _t := tokP; (refine (Dk_pairs D11).mono ?_); rintro e w12 ⟨v12, rfl, s12, hb12⟩; have D12 := D11.ext hb12; have K12 := K11.ext hb12; clear tokP)
    | (go_at_call 23; have _t := tokS; (refine (SamePairs_true _ _ _ _ s12 D12.ps.slice).mono ?_); rintro e w13 ⟨rfl, hb13⟩; have D13 := D12.ext hb13; have K13 := K12.ext hb13; clear tokS)
    | (go_at_call 22; (refine (PairsK_t K13).mono ?_); rintro e w14 ⟨v14, rfl, P14, hb14⟩; have D14 := D13.ext hb14)
    | (go_at_call 23; (refine (SamePairs_true _ _ _ _ P14.slice D14.ps.slice).mono ?_); rintro e w15 ⟨rfl, hb15⟩)
    | fail)
  go_ret
  exact ⟨rfl, (D14.ext hb15).below⟩
open Go.ChangeShapes Go.WideShapes Go.ChangeAt

set_option maxRecDepth 100000 in
theorem lifted (os : Os) (started : os.Started) (H : Type) (enc : TypeId × Value → H) :
    ReturnsInHanded {} Try.checked os 8 .any (Rows.kvDeadSpec.pre6 enc Try.prog Try.f8 Rows.kvDeadRow.domain false) (Rows.kvDeadSpec.post enc Try.prog Try.f8 false true false false) := by
  refine law_lift (C := Try.checked) (ts := [33, 33]) (tb := 4) (by kernel_rfl) started (by kernel_rfl) Try.func8
    (ChangeSpec.witness6 (enc := enc) (C := Try.checked) false ⟨#[], #[.slice none 0 0, .slice none 0 0], []⟩ 8 (by kernel_rfl) (by kernel_rfl) (by kernel_rfl) (by kernel_rfl))
    (by kernel_rfl) (by kernel_rfl) (by kernel_rfl) (by kernel_rfl) Try.underlying4 rfl (fun ds h => by match ds, h with | [_, _], _ => rfl) ?_
  intro W vs hl h
  match vs, hl with
  | [v0, v1], _ =>
    have hf1 := h 0 _ v0 rfl rfl
    have hf2 := h 1 _ v1 rfl rfl
    obtain ⟨ls, hl'⟩ := arg_slice Try.underlying33 (by kernel_rfl) (opens_op enc) hf1
    obtain ⟨ms, hm'⟩ := arg_slice Try.underlying33 (by kernel_rfl) (opens_op enc) hf2
    by_cases hs1 : SmallL ls
    · by_cases hs2 : SmallL ms
      · exact walk _ _ ls ms W hl' hm' hs1 hs2
      · exact walk_big2 _ _ ls ms W hl' hm' hs1 hs2
    · exact walk_big1 _ _ ls W hl' hs1

theorem over : Rows.kvDeadRow.holds Try.pinned (OpenSpec.ofChange Rows.kvDeadSpec) :=
  OpenClaim.holds_of_wide 8 Try.f8 rfl rfl rfl rfl rfl rfl rfl ⟨rfl, rfl, rfl, rfl, rfl⟩ rfl rfl rfl rfl rfl (by kernel_rfl) Try.func8 (by kernel_rfl)
    (of_decide_eq_true (by kernel_rfl)) (by unfold Func.isWrapper; first | (rw [if_pos (by decide +kernel)]; kernel_rfl) | (rw [if_neg (by decide +kernel)]; exact ⟨rfl, rfl⟩))
    (fun os started H enc _ => lifted os started H enc)
end Go.Proofs.Ythjnebngdcdicaa.KvDead
namespace Go.Proofs.Ythjnebngdcdicaa
theorem kvDead_holds : Rows.KvDeadSaid := KvDead.over
#print axioms kvDead_holds
end Go.Proofs.Ythjnebngdcdicaa
