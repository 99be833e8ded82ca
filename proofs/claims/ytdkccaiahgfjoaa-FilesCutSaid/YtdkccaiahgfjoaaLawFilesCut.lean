/- 'FilesCut' answers true at every input, and leaves what it was given. No condition. -/
import Derived.Test.YtdkccaiahgfjoaaFsAlive
import Derived.Test.YtdkccaiahgfjoaaFsPlain2
import Derived.Test.YtdkccaiahgfjoaaFsCutR
import Derived.Test.YtdkccaiahgfjoaaLaw
import Derived.Test.YtdkccaiahgfjoaaRows
import Derived.Deep.QuietTactic
import Derived.BigQuiet
namespace Go.Proofs.Ytdkccaiahgfjoaa.FilesCut
open Go Go.RowKit Go.Mun Go.Proofs Go.Maps

theorem str_cat (l m : List UInt8) : ((⟨l.toArray⟩ : ByteArray) ++ (⟨m.toArray⟩ : ByteArray)) = ⟨(l ++ m).toArray⟩ := by
  apply ByteArray.ext
  simp [ByteArray.data_append]
theorem cat_eq (l m : List UInt8) : (l ++ m == ((⟨l.toArray⟩ : ByteArray) ++ (⟨m.toArray⟩ : ByteArray)).toList) = true := by
  rw [str_cat]
  simp
set_option maxRecDepth 100000 in
set_option maxHeartbeats 4000000 in
theorem walk (va vb : Value) (a b : List UInt8) (cut : Int) (w : World) (hva : Bytes w va a) (hvb : Bytes w vb b) (hcut : (Lit.int .i64 cut).wf = true) :
    Calls Try.prog 5 #[va, vb, .int .i64 cut] w fun e w' => e = .returned (.bool true) ∧ Below w.heap.size w w' := by
  have CA := Lib.hid alive_any
  have HA := Lib.hid hva
  have HB := Lib.hid hvb
  obtain ⟨A1, n1, c1, rfl, a1, a2, a3, a4⟩ := id hva
  obtain ⟨A2, n2, c2, rfl, b1, b2, b3, b4⟩ := id hvb
  have hcw : -9223372036854775808 ≤ cut ∧ cut ≤ 9223372036854775807 := by
    unfold Lit.wf at hcut
    have h1 := of_decide_eq_true (Bool.and_eq_true_iff.1 hcut).1
    have h2 := of_decide_eq_true (Bool.and_eq_true_iff.1 hcut).2
    exact ⟨h1, h2⟩
  clear a4 b4 hva hvb hcut
  by_cases d1 : 300 < n1
  · have e1 : decide ((300 : Int) < (n1 : Int)) = true := decide_eq_true (by omega)
    go_enter Try.func5, Try.ntmps5
    go_wp2_with (first
      | (go_at_call 9; (with_reducible refine (CA.out _).mono ?_); rintro e w1 ⟨rfl, hb1⟩)
      | fail)
    go_ret
    exact ⟨rfl, hb1⟩
  have e1 : decide ((300 : Int) < (n1 : Int)) = false := decide_eq_false (by omega)
  by_cases d2 : 300 < n2
  · have e2 : decide ((300 : Int) < (n2 : Int)) = true := decide_eq_true (by omega)
    go_enter Try.func5, Try.ntmps5
    go_wp2_with (first
      | (go_at_call 9; (with_reducible refine (CA.out _).mono ?_); rintro e w1 ⟨rfl, hb1⟩)
      | fail)
    go_ret
    exact ⟨rfl, hb1⟩
  have e2 : decide ((300 : Int) < (n2 : Int)) = false := decide_eq_false (by omega)
  by_cases d3 : cut < 0
  · have e3 : decide (cut < (0 : Int)) = true := decide_eq_true d3
    go_enter Try.func5, Try.ntmps5
    go_wp2_with (first
      | (go_at_call 9; (with_reducible refine (CA.out _).mono ?_); rintro e w1 ⟨rfl, hb1⟩)
      | fail)
    go_ret
    exact ⟨rfl, hb1⟩
  have e3 : decide (cut < (0 : Int)) = false := decide_eq_false d3
  obtain ⟨q, hq⟩ : ∃ q, q = cut.toNat % (n2 + 1) := ⟨_, rfl⟩
  have hq2 : q ≤ n2 := by have := Nat.mod_lt cut.toNat (show 0 < n2 + 1 by omega); omega
  have QM := Lib.hid (show cut.tmod ((n2 : Int) + 1) = (q : Int) by
    rw [Int.tmod_eq_emod_of_nonneg (by omega), hq, Int.natCast_emod, Int.toNat_of_nonneg (by omega)]
    congr 1)
  have q0 : (((n2 : Int) + 1) == 0) = false := by rw [beq_eq_false_iff_ne]; omega
  have qw : IntKind.i64.wrap ((n2 : Int) + 1) = (n2 : Int) + 1 := IntWalk.i64_in _ (by omega)
  have qk : IntKind.i64.wrap (q : Int) = (q : Int) := IntWalk.i64_in _ (by omega)
  have HRD := Lib.hid (show readM (startM (syncM (cutM a b cut) cA)) cA = a ++ b.take q by rw [cutM_sync, cutM_read a b cut (by omega), b1, hq])
  have hbT := bytesTyC
  have HQ := Lib.hid hq
  have hmm := QM.out
  clear hq
  go_enter Try.func5, Try.ntmps5
  go_upto_region 14 with (first
    | (go_at_call 9; (with_reducible refine (CA.out _).mono ?_); rintro e w1 ⟨rfl, hb1⟩; have N0 := Lib.hid (New_in (w0 := w) (w := w1) (o := fun _ => none) 0 (fun _ _ => rfl) hb1 (fun _ _ => rfl)))
    | (go_at_call 10; (with_reducible refine N0.out.mono ?_); rintro e w2 ⟨p, o2, rfl, h2, T2⟩; have tokA : True := trivial)
    | (go_at_call 11; have _t := tokA; (with_reducible refine (App_in h2 cA (by decide) _ a (HA.out.ext h2.below) (Free.arg h2.base HA.out) (by omega) (by decide) (by decide)).mono ?_); clear tokA; rintro e w3 ⟨rfl, o3, h3, T3⟩; have tokS : True := trivial)
    | (go_at_call 13; have _t := tokS; (with_reducible refine (Sync_in h3 cA (by decide) (by decide) (by omega)).mono ?_); clear tokS; rintro e w4 ⟨rfl, o4, h4, T4⟩)
    | (go_at_call 15; (with_reducible refine (Dir_in h4 (by decide) (by omega)).mono ?_); rintro e w5 ⟨rfl, o5, h5, T5⟩)
    | (go_at_call 11; (with_reducible refine (App_in h5 cA (by decide) _ b (HB.out.ext h5.below) (Free.arg h5.base HB.out) (by omega) (by decide) (by omega)).mono ?_); rintro e w6 ⟨rfl, o6, h6, T6⟩)
    | (go_at_call 19; (with_reducible refine (Plan_in h6 0 cut (.slice none 0 0) [] (by decide) hcw (Bools.nil _) Free.nil (by decide)).mono ?_); rintro e w7 ⟨rfl, o7, h7, T7⟩)
    | (go_at_call 13; (with_reducible refine (Sync_in h7 cA (by decide) (by decide) (by omega)).mono ?_); rintro e w8 ⟨he, o8, h8, T8⟩; have he2 : e = .returned (.bool false) := he; clear he; subst he2)
    | (go_at_call 20; (with_reducible refine (Start_in h8).mono ?_); rintro e w9 ⟨rfl, h9, T9⟩)
    | (go_at_call 21; (with_reducible refine (Read_in h9 cA (by decide) (by omega)).mono ?_); rintro e w10 ⟨v, he, ho10, hb10, h10⟩; have he2 : e = .returned (.tuple #[v, .bool true]) := he; clear he; subst he2)
    | fail)
  have HV := Bytes.own ho10
  have e10 : readM (startM (syncM (planM (appM (dirM (syncM (appM newM cA a) cA)) cA b) 0 cut []) cA)) cA = a ++ b.take q := HRD.out
  rw [e10] at HV
  have HVA := HA.out.ext h10.below
  have HVB := HB.out.ext h10.below
  obtain ⟨A, n, c, rfl, v1, v2, v3, v4⟩ := id HV
  obtain ⟨A3, r1, r2⟩ := cut_h hbT A2 n2 c2 (kh := .i64) (hi' := (q : Int)) (hi := q) rfl (by omega)
  have HV3 := r2 _ _ HVB hq2
  have q1 := fun m => run_str (P := Try.prog) (src := 26) (dst := 9) (Bytes_drewN HV m) u8sTy u8Ty Try.underlying9
  have q2 := fun m => run_str (P := Try.prog) (src := 26) (dst := 9) (Bytes_drewN HVA m) u8sTy u8Ty Try.underlying9
  have q3 := fun m => run_str (P := Try.prog) (src := 26) (dst := 9) (Bytes_drewN HV3 m) u8sTy u8Ty Try.underlying9
  have hbl := h10.below
  clear HV HVA HVB HV3 v4 r2 e10 ho10
  have qe := cat_eq a (b.take q)
  go_quiet (fail)
  go_wp2
  go_ret
  exact ⟨by rw [← qe]; rfl, below_drewN hbl _⟩
open Go.ChangeShapes Go.WideShapes Go.ChangeAt

set_option maxRecDepth 100000 in
theorem lifted (os : Os) (started : os.Started) (H : Type) (enc : TypeId × Value → H) :
    ReturnsInHanded {} Try.checked os 5 .any (Rows.filesCutSpec.pre6 enc Try.prog Try.f5 Rows.filesCutRow.domain false) (Rows.filesCutSpec.post enc Try.prog Try.f5 false true false false) := by
  refine law_lift (C := Try.checked) (ts := [26, 26, 3]) (tb := 4) (by kernel_rfl) started (by kernel_rfl) Try.func5
    (ChangeSpec.witness6 (enc := enc) (C := Try.checked) false ⟨#[], #[.slice none 0 0, .slice none 0 0, .int .i64 0], []⟩ 8 (by kernel_rfl) (by kernel_rfl) (by kernel_rfl) (by kernel_rfl))
    (by kernel_rfl) (by kernel_rfl) (by kernel_rfl) (by kernel_rfl) Try.underlying4 rfl (fun ds h => by match ds, h with | [_, _, _], _ => rfl) ?_
  intro W vs hl h
  match vs, hl with
  | [v0, v1, v2], _ =>
    obtain ⟨va, hva⟩ := arg_bytes Try.underlying26 Try.underlying5 (by kernel_rfl) (h 0 _ v0 rfl rfl)
    obtain ⟨vb, hvb⟩ := arg_bytes Try.underlying26 Try.underlying5 (by kernel_rfl) (h 1 _ v1 rfl rfl)
    obtain ⟨cut, rfl, hcut⟩ := arg_int Try.underlying3 (h 2 _ v2 rfl rfl)
    exact walk _ _ va vb cut W hva hvb hcut

theorem over : Rows.filesCutRow.holds Try.pinned (OpenSpec.ofChange Rows.filesCutSpec) :=
  OpenClaim.holds_of_wide 5 Try.f5 rfl rfl rfl rfl rfl rfl rfl ⟨rfl, rfl, rfl, rfl, rfl⟩ rfl rfl rfl rfl rfl (by kernel_rfl) Try.func5 (by kernel_rfl)
    (of_decide_eq_true (by kernel_rfl)) (by unfold Func.isWrapper; first | (rw [if_pos (by decide +kernel)]; kernel_rfl) | (rw [if_neg (by decide +kernel)]; exact ⟨rfl, rfl⟩))
    (fun os started H enc _ => lifted os started H enc)
end Go.Proofs.Ytdkccaiahgfjoaa.FilesCut
namespace Go.Proofs.Ytdkccaiahgfjoaa
theorem filesCut_holds : Rows.FilesCutSaid := FilesCut.over
#print axioms filesCut_holds
end Go.Proofs.Ytdkccaiahgfjoaa
