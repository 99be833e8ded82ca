/- 'KvOnce' answers true at every input, and leaves what it was given. No condition. -/
import Derived.Test.YthjnebngdcdicaaKvCr
namespace Go.Proofs.Ythjnebngdcdicaa.KvOnce
open Go Go.RowKit Go.Mun Go.Proofs Go.Maps

set_option maxRecDepth 100000 in
set_option maxHeartbeats 1000000 in
theorem early1 (va vb : Value) (f l : List Rec) (cp : Bool) (op : Int) (x : CrashF) (Ak : Option Addr) (nk ck : Nat) (w : World) (ha : SliceOf 3 rOp w va f) (hb : SliceOf 3 rOp w vb l) (hs1 : ¬ SmallL f) :
    Calls Try.prog 7 #[va, vb, .bool cp, .int .i64 op, .agg #[.int .i64 x.op, .int .i64 x.cut, .slice Ak nk ck]] w fun e w' => e = .returned (.bool true) ∧ Below w.heap.size w w' := by
  have CA := Lib.hid alive23_any
  have HFA := Lib.hid (fun w' (h : Below w.heap.size w w') => ha.ext rOp_stays h)
  have HLA := Lib.hid (fun w' (h : Below w.heap.size w w') => hb.ext rOp_stays h)
  have tokA : True := trivial
  clear ha hb
  go_enter Try.func7, Try.ntmps7
  go_wp2_with (first
    | ((with_reducible refine gd_box ?_); refine wpList_box_agg rfl _ (.tmp 4) rfl rfl ?_; intro wb hx0 hb0 hl0)
    | (go_at_call 9; (refine (CA.out _).mono ?_); rintro e wa ⟨rfl, hba⟩; have y2 := (hx0.ext hba).cellv (i := 2) rfl; have hbA := below_step hb0 hba)
    | (go_at_call 27; have _t := tokA; (refine (Big_yes _ _ _ (HFA.out _ hbA) hs1).mono ?_); rintro e wn ⟨rfl, rfl⟩; clear tokA)
    | fail)
  go_ret
  exact ⟨rfl, hbA⟩
set_option maxRecDepth 100000 in
set_option maxHeartbeats 1000000 in
theorem early2 (va vb : Value) (f l : List Rec) (cp : Bool) (op : Int) (x : CrashF) (Ak : Option Addr) (nk ck : Nat) (w : World) (ha : SliceOf 3 rOp w va f) (hb : SliceOf 3 rOp w vb l) (hs1 : SmallL f) (hs2 : ¬ SmallL l) :
    Calls Try.prog 7 #[va, vb, .bool cp, .int .i64 op, .agg #[.int .i64 x.op, .int .i64 x.cut, .slice Ak nk ck]] w fun e w' => e = .returned (.bool true) ∧ Below w.heap.size w w' := by
  have CA := Lib.hid alive23_any
  have HFA := Lib.hid (fun w' (h : Below w.heap.size w w') => ha.ext rOp_stays h)
  have HLA := Lib.hid (fun w' (h : Below w.heap.size w w') => hb.ext rOp_stays h)
  have tokA : True := trivial
  clear ha hb
  go_enter Try.func7, Try.ntmps7
  go_wp2_with (first
    | ((with_reducible refine gd_box ?_); refine wpList_box_agg rfl _ (.tmp 4) rfl rfl ?_; intro wb hx0 hb0 hl0)
    | (go_at_call 9; (refine (CA.out _).mono ?_); rintro e wa ⟨rfl, hba⟩; have y2 := (hx0.ext hba).cellv (i := 2) rfl; have hbA := below_step hb0 hba)
    | (go_at_call 27; have _t := tokA; (refine (Big_no _ _ _ (HFA.out _ hbA) hs1).mono ?_); rintro e wn ⟨rfl, rfl⟩; clear tokA)
    | (go_at_call 27; (refine (Big_yes _ _ _ (HLA.out _ hbA) hs2).mono ?_); rintro e wn ⟨rfl, rfl⟩)
    | fail)
  go_ret
  exact ⟨rfl, hbA⟩
set_option maxRecDepth 100000 in
set_option maxHeartbeats 1000000 in
theorem early3 (va vb : Value) (f l : List Rec) (cp : Bool) (op : Int) (x : CrashF) (Ak : Option Addr) (nk ck : Nat) (w : World) (ha : SliceOf 3 rOp w va f) (hb : SliceOf 3 rOp w vb l) (hs1 : SmallL f) (hs2 : SmallL l) (h1 : op < 0) :
    Calls Try.prog 7 #[va, vb, .bool cp, .int .i64 op, .agg #[.int .i64 x.op, .int .i64 x.cut, .slice Ak nk ck]] w fun e w' => e = .returned (.bool true) ∧ Below w.heap.size w w' := by
  have CA := Lib.hid alive23_any
  have HFA := Lib.hid (fun w' (h : Below w.heap.size w w') => ha.ext rOp_stays h)
  have HLA := Lib.hid (fun w' (h : Below w.heap.size w w') => hb.ext rOp_stays h)
  have tokA : True := trivial
  clear ha hb
  have e1 : decide (op < 0) = true := decide_eq_true h1
  go_enter Try.func7, Try.ntmps7
  go_wp2_with (first
    | ((with_reducible refine gd_box ?_); refine wpList_box_agg rfl _ (.tmp 4) rfl rfl ?_; intro wb hx0 hb0 hl0)
    | (go_at_call 9; (refine (CA.out _).mono ?_); rintro e wa ⟨rfl, hba⟩; have y2 := (hx0.ext hba).cellv (i := 2) rfl; have hbA := below_step hb0 hba)
    | (go_at_call 27; have _t := tokA; (refine (Big_no _ _ _ (HFA.out _ hbA) hs1).mono ?_); rintro e wn ⟨rfl, rfl⟩; clear tokA)
    | (go_at_call 27; (refine (Big_no _ _ _ (HLA.out _ hbA) hs2).mono ?_); rintro e wn ⟨rfl, rfl⟩)
    | fail)
  go_ret
  exact ⟨rfl, hbA⟩
set_option maxRecDepth 100000 in
set_option maxHeartbeats 1000000 in
theorem early4 (va vb : Value) (f l : List Rec) (cp : Bool) (op : Int) (x : CrashF) (Ak : Option Addr) (nk ck : Nat) (w : World) (ha : SliceOf 3 rOp w va f) (hb : SliceOf 3 rOp w vb l) (hs1 : SmallL f) (hs2 : SmallL l) (h2 : 60 < op) :
    Calls Try.prog 7 #[va, vb, .bool cp, .int .i64 op, .agg #[.int .i64 x.op, .int .i64 x.cut, .slice Ak nk ck]] w fun e w' => e = .returned (.bool true) ∧ Below w.heap.size w w' := by
  have CA := Lib.hid alive23_any
  have HFA := Lib.hid (fun w' (h : Below w.heap.size w w') => ha.ext rOp_stays h)
  have HLA := Lib.hid (fun w' (h : Below w.heap.size w w') => hb.ext rOp_stays h)
  have tokA : True := trivial
  clear ha hb
  have e1 : decide (op < 0) = false := decide_eq_false (by omega)
  have e2 : decide (60 < op) = true := decide_eq_true h2
  go_enter Try.func7, Try.ntmps7
  go_wp2_with (first
    | ((with_reducible refine gd_box ?_); refine wpList_box_agg rfl _ (.tmp 4) rfl rfl ?_; intro wb hx0 hb0 hl0)
    | (go_at_call 9; (refine (CA.out _).mono ?_); rintro e wa ⟨rfl, hba⟩; have y2 := (hx0.ext hba).cellv (i := 2) rfl; have hbA := below_step hb0 hba)
    | (go_at_call 27; have _t := tokA; (refine (Big_no _ _ _ (HFA.out _ hbA) hs1).mono ?_); rintro e wn ⟨rfl, rfl⟩; clear tokA)
    | (go_at_call 27; (refine (Big_no _ _ _ (HLA.out _ hbA) hs2).mono ?_); rintro e wn ⟨rfl, rfl⟩)
    | fail)
  go_ret
  exact ⟨rfl, hbA⟩
set_option maxRecDepth 100000 in
set_option maxHeartbeats 1000000 in
theorem early5 (va vb : Value) (f l : List Rec) (cp : Bool) (op : Int) (x : CrashF) (Ak : Option Addr) (nk ck : Nat) (w : World) (ha : SliceOf 3 rOp w va f) (hb : SliceOf 3 rOp w vb l) (hs1 : SmallL f) (hs2 : SmallL l) (h1 : 0 ≤ op) (h2 : op ≤ 60) (h3 : 100 < nk) :
    Calls Try.prog 7 #[va, vb, .bool cp, .int .i64 op, .agg #[.int .i64 x.op, .int .i64 x.cut, .slice Ak nk ck]] w fun e w' => e = .returned (.bool true) ∧ Below w.heap.size w w' := by
  have CA := Lib.hid alive23_any
  have HFA := Lib.hid (fun w' (h : Below w.heap.size w w') => ha.ext rOp_stays h)
  have HLA := Lib.hid (fun w' (h : Below w.heap.size w w') => hb.ext rOp_stays h)
  have tokA : True := trivial
  clear ha hb
  have e1 : decide (op < 0) = false := decide_eq_false (by omega)
  have e2 : decide (60 < op) = false := decide_eq_false (by omega)
  have e3 : decide ((100 : Int) < (nk : Int)) = true := decide_eq_true (by omega)
  go_enter Try.func7, Try.ntmps7
  go_wp2_with (first
    | ((with_reducible refine gd_box ?_); refine wpList_box_agg rfl _ (.tmp 4) rfl rfl ?_; intro wb hx0 hb0 hl0)
    | (go_at_call 9; (refine (CA.out _).mono ?_); rintro e wa ⟨rfl, hba⟩; have y2 := (hx0.ext hba).cellv (i := 2) rfl; have hbA := below_step hb0 hba)
    | (go_at_call 27; have _t := tokA; (refine (Big_no _ _ _ (HFA.out _ hbA) hs1).mono ?_); rintro e wn ⟨rfl, rfl⟩; clear tokA)
    | (go_at_call 27; (refine (Big_no _ _ _ (HLA.out _ hbA) hs2).mono ?_); rintro e wn ⟨rfl, rfl⟩)
    | fail)
  go_ret
  exact ⟨rfl, hbA⟩
theorem crashTy : AggTy Try.prog 58 3 := ⟨⟨_, Try.underlying58, rfl⟩, by kernel_rfl⟩
set_option maxRecDepth 100000 in
set_option maxHeartbeats 16000000 in
theorem mainW (va vb : Value) (f l : List Rec) (op : Int) (x : CrashF) (Ak : Option Addr) (nk ck : Nat) (w : World) (ha : SliceOf 3 rOp w va f) (hb : SliceOf 3 rOp w vb l) (hs1 : SmallL f) (hs2 : SmallL l) (h1 : 0 ≤ op) (h2 : op ≤ 60) (h3 : nk ≤ 100) (hx : CrOk x) (hk : Bools w (.slice Ak nk ck) x.keep) :
    Calls Try.prog 7 #[va, vb, .bool false, .int .i64 op, .agg #[.int .i64 x.op, .int .i64 x.cut, .slice Ak nk ck]] w fun e w' => e = .returned (.bool true) ∧ Below w.heap.size w w' := by
  have CA := Lib.hid alive23_any
  have HFA := Lib.hid (fun w' (h : Below w.heap.size w w') => ha.ext rOp_stays h)
  have HLA := Lib.hid (fun w' (h : Below w.heap.size w w') => hb.ext rOp_stays h)
  have tokA : True := trivial
  clear ha hb
  have NU := Lib.hid num_any
  have HSF := Lib.hid hs1
  have HSL := Lib.hid hs2
  have HOP := Lib.hid (show -9223372036854775808 ≤ op ∧ op ≤ 9223372036854775807 by omega)
  have HCUT := Lib.hid (And.intro hx.c1 hx.c2)
  have HKP := Lib.hid hk
  have HKL := Lib.hid (show x.keep.length ≤ 100 by obtain ⟨A, n, c, e, g1, _⟩ := hk; injection e with _ e; omega)
  have hTC := crashTy
  have e1 : decide (op < 0) = false := decide_eq_false (by omega)
  have e2 : decide (60 < op) = false := decide_eq_false (by omega)
  have e3 : decide ((100 : Int) < (nk : Int)) = false := decide_eq_false (by omega)
  have tokB : True := trivial
  have tokC : True := trivial
  have tokD : True := trivial
  clear h1 h2 h3 hx hk
  go_enter Try.func7, Try.ntmps7
  go_upto_if 77 with (first
    | ((with_reducible refine gd_box ?_); refine wpList_box_agg rfl _ (.tmp 4) rfl rfl ?_; intro wb hx0 hb0 hl0)
    | (go_at_call 9; (refine (CA.out _).mono ?_); rintro e wa ⟨rfl, hba⟩; have y2 := (hx0.ext hba).cellv (i := 2) rfl; have hbA := below_step hb0 hba; have N0 := Lib.hid (New_t (w0 := w) (w := wa) (o := give (fun _ => none) w.heap.size (7, .fs)) 0 (OwnIn.give (fun _ _ => rfl) (Nat.lt_of_lt_of_le hl0 hba.size) _) hbA (fun b h => give_ne (by omega))); have B0 : CrBox w.heap.size (give (fun _ => none) w.heap.size (7, .fs)) wa _ := ⟨hx0.ext hba, give_same _ _ _⟩; have HB0 := Lib.hid B0; clear B0)
    | (go_at_call 27; have _t := tokA; (refine (Big_no _ _ _ (HFA.out _ hbA) hs1).mono ?_); rintro e wn ⟨rfl, rfl⟩; clear tokA)
    | (go_at_call 27; (refine (Big_no _ _ _ (HLA.out _ hbA) hs2).mono ?_); rintro e wn ⟨rfl, rfl⟩)
    | (go_at_call 10; (refine N0.out.mono ?_); rintro e w1 ⟨p, o1, rfl, h1, T1⟩; have HB1 := Lib.hid (HB0.out.turn T1 (by decide)))
    | (go_at_call 11; (refine (Open_t h1 rfl (j := 1) (by decide) (by decide)).mono ?_); rintro e w2 ⟨q, cl, o2, rfl, h2, T2⟩; have HB2 := Lib.hid (HB1.out.turn T2 (by decide)))
    | (go_at_call 13; (refine (NU.out _ _).mono ?_); rintro e wn ⟨rfl, rfl⟩)
    | (go_at_call 12; have _t := tokB; (refine (Write_go h2 rfl (by decide) (by decide) (HFA.out _ h2.fs.below) HSF.out).mono ?_); rintro e w3 ⟨rfl, M3, ob3, o3, wb3, h3, on3, Ta3, Tb3⟩; have HB3 := Lib.hid ((HB2.out.turn Ta3 (by decide)).turn Tb3 (by decide)); have op3 := Lib.hid (on3 rfl); clear tokB)
    | (go_at_call 12; have _t := tokC; (refine (Write_go h3 op3.out (by decide) (by decide) (HLA.out _ h3.fs.below) HSL.out).mono ?_); rintro e w4 ⟨rfl, M4, ob4, o4, wb4, h4, on4, Ta4, Tb4⟩; have HB4 := Lib.hid ((HB3.out.turn Ta4 (by decide)).turn Tb4 (by decide)); have op4 := Lib.hid (on4 op3.out); clear tokC)
    | (go_at_call 12; have _t := tokD; (refine (Write_go h4 op4.out (by decide) (by decide) (HFA.out _ h4.fs.below) HSF.out).mono ?_); rintro e w5 ⟨rfl, M5, ob5, o5, wb5, h5, on5, Ta5, Tb5⟩; have HB5 := Lib.hid ((HB4.out.turn Ta5 (by decide)).turn Tb5 (by decide)); have op5 := Lib.hid (on5 op4.out); clear tokD)
    | (go_at_call 22; (refine (PairsK_t h5).mono ?_); rintro e w6 ⟨v6, rfl, P6, hb6⟩; have h6 := h5.ext hb6; have HB6 := Lib.hid (HB5.out.ext hb6); clear h2 h3 h4 h5)
    | (go_at_call 19; (refine (Done_t _ _ P6 h6.fs.own (HLA.out _ h6.fs.below) h6.small (by decide) HSL.out).mono ?_); rintro e w7 ⟨v7, rfl, P7, hb7⟩; have OB7 : Ob _ _ _ _ _ _ _ _ _ _ _ _ w _ := ⟨h6.ext hb7, HB6.out.ext hb7, P6.ext h6.fs.own hb7, P7⟩; have b7 := OB7.bx.blk; clear h6 P6 P7)
    | ((with_reducible refine gd_store ?_); refine wpList_store_cell rfl 3 (.tmp 73) (.tmp 72) rfl (i := 0) (v := .int .i64 op) b7 (show 0 < 3 by decide) (by kernel_rfl) rfl rfl rfl ?_; intro w8 hx8 hg8; have OB8 := OB7.put hx8 hg8; have b8 := OB8.bx.blk; clear OB7 b7)
    | ((with_reducible refine gd_load ?_); refine wpList_load_blk rfl 58 (.tmp 9) rfl b8 hTC rfl ?_)
    | (go_at_call 24; (refine (Ob_plan OB8 op x.cut _ x.keep HOP.out HCUT.out HKP.out HKL.out).mono ?_); rintro e w9 ⟨rfl, o9, OC9⟩; have HC9 := Lib.hid OC9; clear OB8 b8 OC9)
    | fail)
  go_cut [17, 18] (fun s17 s18 wx => ∃ xn, s17 = v7 ∧ s18 = .int .i64 xn ∧ After p (doneP (doneP (doneP [] f) l) f) (doneP (doneP (doneP (doneP [] f) l) f) l) 4 v6 v7 xn w wx)
  case first =>
    go_wp2_with (first
      | (go_at_call 12; (refine (Oc_write HC9.out (by decide) (HLA.out _ HC9.out.kt.fs.below) HSL.out).mono ?_); rintro e wd ⟨xn, rfl, HA⟩)
      | (go_at_call 13; (refine (NU.out _ _).mono ?_); rintro e wn ⟨rfl, rfl⟩)
      | fail)
    go_meet
    exact ⟨xn, rfl, rfl, HA⟩
  case rest =>
    obtain ⟨xn, e17, rfl, M, S', o, hF, hP1, hP2, hc⟩ := hcut
    subst e17
    have F0 : Of p M S' _ _ 4 _ _ o w wc := ⟨hF, hP1, hP2⟩
    clear hF hP1 hP2
    rcases hc with ⟨rfl, hd, rfl⟩ | ⟨rfl, hd, hS⟩
    · skip
      go_wp2_with (first
        | (go_at_call 25; (refine (Of_dead F0 false hd).mono ?_); rintro e wn ⟨rfl, rfl⟩)
        | (go_at_call 24; (refine (Of_plan F0).mono ?_); rintro e w1 ⟨rfl, o1, F1⟩)
        | (go_at_call 26; (refine (Of_start F1).mono ?_); rintro e w2 ⟨rfl, F2⟩)
        | (go_at_call 11; (refine (Of_open 2 F2 rfl (by decide) (by decide)).mono ?_); rintro e w3 ⟨q3, rfl, c3, o3, K3, F3, T3⟩)
        | (go_at_call 13; (refine (NU.out _ _).mono ?_); rintro e wn ⟨rfl, rfl⟩)
        | (go_at_call 22; (refine (PairsK_t K3).mono ?_); rintro e w4 ⟨v4, rfl, P4, hb4⟩; have F4 := F3.ext hb4)
        | (go_at_call 23; (refine (SamePairs_true _ _ _ _ P4.slice F4.p2.slice).mono ?_); rintro e w5 ⟨rfl, hb5⟩; have F5 := F4.ext hb5)
        | fail)
      go_ret
      exact ⟨rfl, F5.ft.fs.below⟩
    · by_cases hne : S' = (doneP (doneP (doneP [] f) l) f)
      · subst hne
        clear hS
        go_wp2_with (first
          | (go_at_call 25; (refine (Of_dead F0 true hd).mono ?_); rintro e wn ⟨rfl, rfl⟩)
          | (go_at_call 24; (refine (Of_plan F0).mono ?_); rintro e w1 ⟨rfl, o1, F1⟩)
          | (go_at_call 26; (refine (Of_start F1).mono ?_); rintro e w2 ⟨rfl, F2⟩)
          | (go_at_call 11; (refine (Of_open 2 F2 rfl (by decide) (by decide)).mono ?_); rintro e w3 ⟨q3, rfl, c3, o3, K3, F3, T3⟩)
          | (go_at_call 13; (refine (NU.out _ _).mono ?_); rintro e wn ⟨rfl, rfl⟩)
          | (go_at_call 22; (refine (PairsK_t K3).mono ?_); rintro e w4 ⟨v4, rfl, P4, hb4⟩; have F4 := F3.ext hb4)
          | (go_at_call 23; (refine (SamePairs_true _ _ _ _ P4.slice F4.p1.slice).mono ?_); rintro e w5 ⟨rfl, hb5⟩; have F5 := F4.ext hb5)
          | fail)
        go_ret
        exact ⟨rfl, F5.ft.fs.below⟩
      · obtain rfl := hS.resolve_left hne
        have HNE := Lib.hid hne
        have tokP : True := trivial
        have tokS : True := trivial
        clear hne hS
        go_wp2_with (first
          | (go_at_call 25; (refine (Of_dead F0 true hd).mono ?_); rintro e wn ⟨rfl, rfl⟩)
          | (go_at_call 24; (refine (Of_plan F0).mono ?_); rintro e w1 ⟨rfl, o1, F1⟩)
          | (go_at_call 26; (refine (Of_start F1).mono ?_); rintro e w2 ⟨rfl, F2⟩)
          | (go_at_call 11; (refine (Of_open 2 F2 rfl (by decide) (by decide)).mono ?_); rintro e w3 ⟨q3, rfl, c3, o3, K3, F3, T3⟩)
          | (go_at_call 13; (refine (NU.out _ _).mono ?_); rintro e wn ⟨rfl, rfl⟩)
          | (go_at_call 22; have _t := tokP; (refine (PairsK_t K3).mono ?_); rintro e w4 ⟨v4, rfl, P4, hb4⟩; have F4 := F3.ext hb4; have K4 := K3.ext hb4; clear tokP)
          | (go_at_call 23; have _t := tokS; (refine (SamePairs_no _ _ _ _ _ P4.slice F4.p1.slice HNE.out).mono ?_); rintro e w5 ⟨rfl, hb5⟩; have F5 := F4.ext hb5; have K5 := K4.ext hb5; clear tokS)
          | (go_at_call 22; (refine (PairsK_t K5).mono ?_); rintro e w6 ⟨v7, rfl, P6, hb6⟩; have F6 := F5.ext hb6)
          | (go_at_call 23; (refine (SamePairs_true _ _ _ _ P6.slice F6.p2.slice).mono ?_); rintro e w7 ⟨rfl, hb7⟩; have F7 := F6.ext hb7)
          | fail)
        go_ret
        exact ⟨rfl, F7.ft.fs.below⟩
set_option maxRecDepth 100000 in
set_option maxHeartbeats 16000000 in
theorem mainC (va vb : Value) (f l : List Rec) (op : Int) (x : CrashF) (Ak : Option Addr) (nk ck : Nat) (w : World) (ha : SliceOf 3 rOp w va f) (hb : SliceOf 3 rOp w vb l) (hs1 : SmallL f) (hs2 : SmallL l) (h1 : 0 ≤ op) (h2 : op ≤ 60) (h3 : nk ≤ 100) (hx : CrOk x) (hk : Bools w (.slice Ak nk ck) x.keep) :
    Calls Try.prog 7 #[va, vb, .bool true, .int .i64 op, .agg #[.int .i64 x.op, .int .i64 x.cut, .slice Ak nk ck]] w fun e w' => e = .returned (.bool true) ∧ Below w.heap.size w w' := by
  have CA := Lib.hid alive23_any
  have HFA := Lib.hid (fun w' (h : Below w.heap.size w w') => ha.ext rOp_stays h)
  have HLA := Lib.hid (fun w' (h : Below w.heap.size w w') => hb.ext rOp_stays h)
  have tokA : True := trivial
  clear ha hb
  have NU := Lib.hid num_any
  have HSF := Lib.hid hs1
  have HSL := Lib.hid hs2
  have HOP := Lib.hid (show -9223372036854775808 ≤ op ∧ op ≤ 9223372036854775807 by omega)
  have HCUT := Lib.hid (And.intro hx.c1 hx.c2)
  have HKP := Lib.hid hk
  have HKL := Lib.hid (show x.keep.length ≤ 100 by obtain ⟨A, n, c, e, g1, _⟩ := hk; injection e with _ e; omega)
  have hTC := crashTy
  have e1 : decide (op < 0) = false := decide_eq_false (by omega)
  have e2 : decide (60 < op) = false := decide_eq_false (by omega)
  have e3 : decide ((100 : Int) < (nk : Int)) = false := decide_eq_false (by omega)
  have tokB : True := trivial
  have tokC : True := trivial
  have tokD : True := trivial
  clear h1 h2 h3 hx hk
  go_enter Try.func7, Try.ntmps7
  go_upto_if 77 with (first
    | ((with_reducible refine gd_box ?_); refine wpList_box_agg rfl _ (.tmp 4) rfl rfl ?_; intro wb hx0 hb0 hl0)
    | (go_at_call 9; (refine (CA.out _).mono ?_); rintro e wa ⟨rfl, hba⟩; have y2 := (hx0.ext hba).cellv (i := 2) rfl; have hbA := below_step hb0 hba; have N0 := Lib.hid (New_t (w0 := w) (w := wa) (o := give (fun _ => none) w.heap.size (7, .fs)) 0 (OwnIn.give (fun _ _ => rfl) (Nat.lt_of_lt_of_le hl0 hba.size) _) hbA (fun b h => give_ne (by omega))); have B0 : CrBox w.heap.size (give (fun _ => none) w.heap.size (7, .fs)) wa _ := ⟨hx0.ext hba, give_same _ _ _⟩; have HB0 := Lib.hid B0; clear B0)
    | (go_at_call 27; have _t := tokA; (refine (Big_no _ _ _ (HFA.out _ hbA) hs1).mono ?_); rintro e wn ⟨rfl, rfl⟩; clear tokA)
    | (go_at_call 27; (refine (Big_no _ _ _ (HLA.out _ hbA) hs2).mono ?_); rintro e wn ⟨rfl, rfl⟩)
    | (go_at_call 10; (refine N0.out.mono ?_); rintro e w1 ⟨p, o1, rfl, h1, T1⟩; have HB1 := Lib.hid (HB0.out.turn T1 (by decide)))
    | (go_at_call 11; (refine (Open_t h1 rfl (j := 1) (by decide) (by decide)).mono ?_); rintro e w2 ⟨q, cl, o2, rfl, h2, T2⟩; have HB2 := Lib.hid (HB1.out.turn T2 (by decide)))
    | (go_at_call 13; (refine (NU.out _ _).mono ?_); rintro e wn ⟨rfl, rfl⟩)
    | (go_at_call 12; have _t := tokB; (refine (Write_go h2 rfl (by decide) (by decide) (HFA.out _ h2.fs.below) HSF.out).mono ?_); rintro e w3 ⟨rfl, M3, ob3, o3, wb3, h3, on3, Ta3, Tb3⟩; have HB3 := Lib.hid ((HB2.out.turn Ta3 (by decide)).turn Tb3 (by decide)); have op3 := Lib.hid (on3 rfl); clear tokB)
    | (go_at_call 12; have _t := tokC; (refine (Write_go h3 op3.out (by decide) (by decide) (HLA.out _ h3.fs.below) HSL.out).mono ?_); rintro e w4 ⟨rfl, M4, ob4, o4, wb4, h4, on4, Ta4, Tb4⟩; have HB4 := Lib.hid ((HB3.out.turn Ta4 (by decide)).turn Tb4 (by decide)); have op4 := Lib.hid (on4 op3.out); clear tokC)
    | (go_at_call 12; have _t := tokD; (refine (Write_go h4 op4.out (by decide) (by decide) (HFA.out _ h4.fs.below) HSF.out).mono ?_); rintro e w5 ⟨rfl, M5, ob5, o5, wb5, h5, on5, Ta5, Tb5⟩; have HB5 := Lib.hid ((HB4.out.turn Ta5 (by decide)).turn Tb5 (by decide)); have op5 := Lib.hid (on5 op4.out); clear tokD)
    | (go_at_call 22; (refine (PairsK_t h5).mono ?_); rintro e w6 ⟨v6, rfl, P6, hb6⟩; have h6 := h5.ext hb6; have HB6 := Lib.hid (HB5.out.ext hb6); clear h2 h3 h4 h5)
    | (go_at_call 19; (refine (Done_t _ _ P6 h6.fs.own (HLA.out _ h6.fs.below) h6.small (by decide) HSL.out).mono ?_); rintro e w7 ⟨v7, rfl, P7, hb7⟩; have OB7 : Ob _ _ _ _ _ _ _ _ _ _ _ _ w _ := ⟨h6.ext hb7, HB6.out.ext hb7, P6.ext h6.fs.own hb7, P7⟩; have b7 := OB7.bx.blk; clear h6 P6 P7)
    | ((with_reducible refine gd_store ?_); refine wpList_store_cell rfl 3 (.tmp 73) (.tmp 72) rfl (i := 0) (v := .int .i64 op) b7 (show 0 < 3 by decide) (by kernel_rfl) rfl rfl rfl ?_; intro w8 hx8 hg8; have OB8 := OB7.put hx8 hg8; have b8 := OB8.bx.blk; clear OB7 b7)
    | ((with_reducible refine gd_load ?_); refine wpList_load_blk rfl 58 (.tmp 9) rfl b8 hTC rfl ?_)
    | (go_at_call 24; (refine (Ob_plan OB8 op x.cut _ x.keep HOP.out HCUT.out HKP.out HKL.out).mono ?_); rintro e w9 ⟨rfl, o9, OC9⟩; have HC9 := Lib.hid OC9; clear OB8 b8 OC9)
    | fail)
  go_cut [17, 18] (fun s17 s18 wx => ∃ xn, s17 = v6 ∧ s18 = .int .i64 xn ∧ After p (doneP (doneP (doneP [] f) l) f) (doneP (doneP (doneP [] f) l) f) 4 v6 v6 xn w wx)
  case first =>
    go_wp2_with (first
      | (go_at_call 16; (refine (Oc_compact HC9.out (by decide)).mono ?_); rintro e wd ⟨xn, rfl, HA⟩)
      | (go_at_call 13; (refine (NU.out _ _).mono ?_); rintro e wn ⟨rfl, rfl⟩)
      | fail)
    go_meet
    exact ⟨xn, rfl, rfl, HA⟩
  case rest =>
    obtain ⟨xn, e17, rfl, M, S', o, hF, hP1, hP2, hc⟩ := hcut
    subst e17
    have F0 : Of p M S' _ _ 4 _ _ o w wc := ⟨hF, hP1, hP2⟩
    clear hF hP1 hP2
    rcases hc with ⟨rfl, hd, rfl⟩ | ⟨rfl, hd, hS⟩
    · skip
      go_wp2_with (first
        | (go_at_call 25; (refine (Of_dead F0 false hd).mono ?_); rintro e wn ⟨rfl, rfl⟩)
        | (go_at_call 24; (refine (Of_plan F0).mono ?_); rintro e w1 ⟨rfl, o1, F1⟩)
        | (go_at_call 26; (refine (Of_start F1).mono ?_); rintro e w2 ⟨rfl, F2⟩)
        | (go_at_call 11; (refine (Of_open 2 F2 rfl (by decide) (by decide)).mono ?_); rintro e w3 ⟨q3, rfl, c3, o3, K3, F3, T3⟩)
        | (go_at_call 13; (refine (NU.out _ _).mono ?_); rintro e wn ⟨rfl, rfl⟩)
        | (go_at_call 22; (refine (PairsK_t K3).mono ?_); rintro e w4 ⟨v4, rfl, P4, hb4⟩; have F4 := F3.ext hb4)
        | (go_at_call 23; (refine (SamePairs_true _ _ _ _ P4.slice F4.p2.slice).mono ?_); rintro e w5 ⟨rfl, hb5⟩; have F5 := F4.ext hb5)
        | fail)
      go_ret
      exact ⟨rfl, F5.ft.fs.below⟩
    · obtain rfl : S' = _ := hS.elim id id
      go_wp2_with (first
        | (go_at_call 25; (refine (Of_dead F0 true hd).mono ?_); rintro e wn ⟨rfl, rfl⟩)
        | (go_at_call 24; (refine (Of_plan F0).mono ?_); rintro e w1 ⟨rfl, o1, F1⟩)
        | (go_at_call 26; (refine (Of_start F1).mono ?_); rintro e w2 ⟨rfl, F2⟩)
        | (go_at_call 11; (refine (Of_open 2 F2 rfl (by decide) (by decide)).mono ?_); rintro e w3 ⟨q3, rfl, c3, o3, K3, F3, T3⟩)
        | (go_at_call 13; (refine (NU.out _ _).mono ?_); rintro e wn ⟨rfl, rfl⟩)
        | (go_at_call 22; (refine (PairsK_t K3).mono ?_); rintro e w4 ⟨v4, rfl, P4, hb4⟩; have F4 := F3.ext hb4)
        | (go_at_call 23; (refine (SamePairs_true _ _ _ _ P4.slice F4.p1.slice).mono ?_); rintro e w5 ⟨rfl, hb5⟩; have F5 := F4.ext hb5)
        | fail)
      go_ret
      exact ⟨rfl, F5.ft.fs.below⟩
end Go.Proofs.Ythjnebngdcdicaa.KvOnce
