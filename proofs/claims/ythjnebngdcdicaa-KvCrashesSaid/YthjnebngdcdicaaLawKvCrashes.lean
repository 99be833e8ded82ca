/- 'KvCrashes' answers true at every input, and leaves what it was given. No condition. -/
import Derived.Test.YthjnebngdcdicaaKvCs
import Derived.Test.YthjnebngdcdicaaRows
namespace Go.Proofs.Ythjnebngdcdicaa.KvCrashes
open Go Go.RowKit Go.Mun Go.Proofs Go.Maps

theorem BigA_no (v : Value) (l : List ActK) (w : World) (h : SliceOf 2 rActK w v l) (hs : SmallA l) :
    Calls Try.prog 15 #[v] w fun e w' => e = .returned (.bool false) ∧ w = w' := by
  refine (BigA_any v l w h).mono ?_
  rintro e w' ⟨B, rfl, rfl, hB⟩
  rw [hB.2 hs]
  exact ⟨rfl, rfl⟩
theorem BigA_yes (v : Value) (l : List ActK) (w : World) (h : SliceOf 2 rActK w v l) (hs : ¬ SmallA l) :
    Calls Try.prog 15 #[v] w fun e w' => e = .returned (.bool true) ∧ w = w' := by
  refine (BigA_any v l w h).mono ?_
  rintro e w' ⟨B, rfl, rfl, hB⟩
  cases B with
  | false => exact absurd (hB.1 rfl) hs
  | true => exact ⟨rfl, rfl⟩
theorem crashTy : AggTy Try.prog 58 3 := ⟨⟨_, Try.underlying58, rfl⟩, by kernel_rfl⟩
theorem actTyK : AggTy Try.prog 42 2 := ⟨⟨_, Try.underlying42, rfl⟩, by kernel_rfl⟩
theorem zActK : (Try.prog.info? 42).bind (·.zero) = some (.agg #[.bool false, .slice none 0 0]) := by kernel_rfl
set_option maxRecDepth 100000 in
theorem early1 (v : Value) (l : List ActK) (A2 : Option Addr) (nc c2 : Nat) (w : World) (h : SliceOf 2 rActK w v l) (hs : ¬ SmallA l) :
    Calls Try.prog 6 #[v, .slice A2 nc c2] w fun e w' => e = .returned (.bool true) ∧ Below w.heap.size w w' := by
  have CA := Lib.hid alive23_any
  have CB := Lib.hid (fun w' (hb : Below w.heap.size w w') => BigA_yes v l w' (h.ext rActK_stays hb) hs)
  clear h
  go_enter Try.func6, Try.ntmps6
  go_wp2_with (first
    | (go_at_call 9; (refine (CA.out _).mono ?_); rintro e wa ⟨rfl, hba⟩)
    | (go_at_call 15; (refine (CB.out _ hba).mono ?_); rintro e wn ⟨rfl, rfl⟩)
    | fail)
  go_ret
  exact ⟨rfl, hba⟩
set_option maxRecDepth 100000 in
theorem early2 (v : Value) (l : List ActK) (A2 : Option Addr) (nc c2 : Nat) (w : World) (h : SliceOf 2 rActK w v l) (hs : SmallA l) (hn : 10 < nc) :
    Calls Try.prog 6 #[v, .slice A2 nc c2] w fun e w' => e = .returned (.bool true) ∧ Below w.heap.size w w' := by
  have CA := Lib.hid alive23_any
  have CB := Lib.hid (fun w' (hb : Below w.heap.size w w') => BigA_no v l w' (h.ext rActK_stays hb) hs)
  have e1 : decide ((10 : Int) < (nc : Int)) = true := decide_eq_true (by omega)
  clear h
  go_enter Try.func6, Try.ntmps6
  go_wp2_with (first
    | (go_at_call 9; (refine (CA.out _).mono ?_); rintro e wa ⟨rfl, hba⟩)
    | (go_at_call 15; (refine (CB.out _ hba).mono ?_); rintro e wn ⟨rfl, rfl⟩)
    | fail)
  go_ret
  exact ⟨rfl, hba⟩
set_option maxRecDepth 100000 in
set_option maxHeartbeats 32000000 in
theorem main (v : Value) (l : List ActK) (A2 : Option Addr) (nc c2 : Nat) (l2 : List CrashF) (w : World) (h : SliceOf 2 rActK w v l) (hsa : SmallA l) (h2 : SliceOf 3 rCr w (.slice A2 nc c2) l2) (hnc : nc ≤ 10) :
    Calls Try.prog 6 #[v, .slice A2 nc c2] w fun e w' => e = .returned (.bool true) ∧ Below w.heap.size w w' := by
  have CA := Lib.hid alive23_any
  have NU := Lib.hid num_any
  have CB := Lib.hid (fun w' (hb : Below w.heap.size w w') => BigA_no v l w' (h.ext rActK_stays hb) hsa)
  have HSA := Lib.hid hsa
  have zA := zActK
  have hTA := actTyK
  have hTC := crashTy
  obtain ⟨A, n, c, xs, rfl, g1, g2, g3, g4, g5, g6⟩ := h
  obtain ⟨A2', n2', c2', ys, e2, j1, j2, j3, j4, j5, j6⟩ := h2
  injection e2 with e21 e22 e23
  subst e21 e22 e23
  have hn30 : n ≤ 30 := by have := hsa.len; omega
  have HX := Lib.hid (fun k (hk : k < n) => actK_at g5 g1 g2 g6 hk)
  have HY := Lib.hid (fun k (hk : k < nc) => cr_at j5 j1 j2 j6 hk)
  have e10 : decide ((10 : Int) < (nc : Int)) = false := decide_eq_false (by omega)
  clear g1 g2 g3 g4 g5 g6 j1 j2 j3 j4 j5 j6 hsa
  go_enter Try.func6, Try.ntmps6
  go_wp2_with (first
    | (go_at_call 9; (refine (CA.out _).mono ?_); rintro e wa ⟨rfl, hba⟩; have N0 := Lib.hid (New_t (w0 := w) (w := wa) (o := fun _ => none) 0 (fun _ _ => rfl) hba (fun _ _ => rfl)))
    | (go_at_call 15; (refine (CB.out _ hba).mono ?_); rintro e wn ⟨rfl, rfl⟩)
    | (go_at_call 10; (refine N0.out.mono ?_); rintro e w1 ⟨p, o1, rfl, h1, T1⟩)
    | fail)
  go_loopw [8, 9, 10] (fun pv av iv wr => ∃ (i t0 : Nat) (M0 : FSs) (S0 : PLB) (o0 : Go.Mun.Own), i ≤ nc + 1 ∧ t0 ≤ n ∧ iv = .int .i64 (i : Nat) ∧ av = .int .i64 (t0 : Nat) ∧ Co p pv t0 M0 S0 o0 w wr) (fun _ _ iv _ => nc + 1 - (RowKit.intOf iv).toNat)
  case atStart => exact ⟨0, 0, _, _, _, Nat.zero_le _, Nat.zero_le _, rfl, rfl, ⟨h1, rfl, PairsF.nil _ _⟩⟩
  case round =>
    obtain ⟨i, t0, M0, S0, o0, hi, ht0, rfl, rfl, hco⟩ := hrel
    have H0 := Lib.hid hco
    clear hco
    by_cases hlt : i ≤ nc
    · have f1 : decide ((i : Int) ≤ (nc : Int)) = true := decide_eq_true (by omega)
      have z1 : (0 : Int) ≤ i := by omega
      go_upto_if 49 with (first
        | (go_at_call 24; (refine (Co_noplan H0.out).mono ?_); rintro e w3 ⟨rfl, o3, h3⟩; have H3 := Lib.hid h3; clear h3)
        | fail)
      go_cut [] (fun wx => ∃ (M3 : FSs) (o3 : Go.Mun.Own), Co p u8 t0 M3 S0 o3 w wx)
      case first =>
        by_cases hic : i < nc
        · have f2 : decide ((i : Int) < (nc : Int)) = true := decide_eq_true (by omega)
          have z2 : (i : Int) < nc := by omega
          obtain ⟨ad, cr, vk, eA, k0, k1, k2, hk, hok, hkp⟩ := HY.out i hic
          subst eA
          have HKP := Lib.hid hkp
          obtain ⟨Ak, nk, ck, rfl, hnk, _⟩ := id hkp
          have HOP := Lib.hid (And.intro hok.o1 hok.o2)
          have HCUT := Lib.hid (And.intro hok.c1 hok.c2)
          have HNK := Lib.hid hnk
          have z3 := cell_ext H3.out.below k0
          have z4 := cell_ext H3.out.below k1
          have z5 := cell_ext H3.out.below k2
          clear hk hok hkp hnk k0 k1 k2
          by_cases h100 : 100 < nk
          · have f3 : decide ((100 : Int) < (nk : Int)) = true := decide_eq_true (by omega)
            go_wp2_with fail
            go_ret
            exact ⟨rfl, H3.out.below⟩
          · have f3 : decide ((100 : Int) < (nk : Int)) = false := decide_eq_false (by omega)
            have HKL := Lib.hid (show cr.keep.length ≤ 100 by rw [HNK.out]; omega)
            go_wp2_with (first
              | (go_at_call 24; (refine (Co_plan H3.out cr.op cr.cut _ cr.keep HOP.out HCUT.out HKP.out HKL.out).mono ?_); rintro e w4 ⟨rfl, o4, h4⟩; have H4 := Lib.hid h4; clear h4)
              | fail)
            go_meet
            exact ⟨_, _, H4.out⟩
        · have f2 : decide ((i : Int) < (nc : Int)) = false := decide_eq_false (by omega)
          go_wp2_with fail
          go_meet
          exact ⟨_, _, H3.out⟩
      case rest =>
        obtain ⟨M3, o3, hC⟩ := hcut
        have HC := Lib.hid hC
        clear hC
        go_wp2_with (first
          | (go_at_call 11; (refine (Co_open HC.out (by omega)).mono ?_); rintro e w6 ⟨q, rfl, cl6, o6, h6⟩; have HI := Lib.hid h6; clear h6)
          | (go_at_call 13; (refine (NU.out _ _).mono ?_); rintro e wn ⟨rfl, rfl⟩)
          | fail)
        go_loopw [8, 9, 11] (fun pv av wv wx => ∃ (t : Nat) (S Sw : PLB), t ≤ n ∧ av = .int .i64 (t : Nat) ∧ Go.Mun.In p q pv wv t S Sw w wx) (fun _ av _ _ => n - (RowKit.intOf av).toNat)
        case atStart => exact ⟨t0, S0, S0, by omega, rfl, .inl ⟨_, _, _, HI.out⟩⟩
        case round =>
          obtain ⟨t, S, Sw, ht, rfl, hin⟩ := hrel
          clear HI
          by_cases hlt : t < n
          · have f0 : decide ((t : Int) < (n : Int)) = true := decide_eq_true (by omega)
            have z1 : (0 : Int) ≤ t := by omega
            have z2 : (t : Int) < n := by omega
            rcases hin with ⟨M, cl, o, ha⟩ | ⟨M, o, hd⟩
            · have HA := Lib.hid ha
              obtain ⟨ad, a, vl, eA, d0, d1, hak, hs⟩ := HX.out t hlt
              subst eA
              have y0 := cell_ext ha.below d0
              have y1 := cell_ext ha.below d1
              have HSM := Lib.hid (HSA.out.each a (List.mem_of_getElem? hak))
              have HS := Lib.hid hs
              obtain ⟨Al, nl, cl2, _, rfl, _⟩ := id hs
              obtain ⟨compact, la⟩ := a
              simp only at y0 HS HSM
              clear ha d0 d1 hak hs
              cases compact
              · skip
                go_upto_region 27 with (first
                  | (go_at_call 25; (refine (Ia_dead HA.out).mono ?_); rintro e wn ⟨rfl, rfl⟩)
                  | (go_at_call 13; (refine (NU.out _ _).mono ?_); rintro e wn ⟨rfl, rfl⟩)
                  | ((with_reducible refine gd_alloc ?_); refine wpList_alloc_blk rfl 42 rfl zA ?_; intro w8 hx8 hb8 hl8)
                  | ((with_reducible refine gd_store ?_); refine wpList_store_all rfl 42 (.tmp 14) (.tmp 99) rfl #[.bool false, .slice Al nl cl2] hx8 hTA rfl rfl rfl rfl ?_; intro w9 hx9 hg9; have hb9 := below_blk hb8 hb8.size hg9 (Nat.le_refl _); have H9 := Lib.hid (HA.out.ext hb9); have HX9 := Lib.hid hx9; have x0 := hx9.cellv (i := 0) rfl; have x1 := hx9.cellv (i := 1) rfl; clear hx8 hb8 hx9 hg9 hb9)
                  | (go_at_call 19; (refine (Ia_done H9.out (by omega) (HS.out.ext rOp_stays H9.out.below) HSM.out).mono ?_); rintro e w10 ⟨v10, rfl, h10, hb10⟩; have H10 := Lib.hid h10; have y1 := (HX9.out.ext hb10).cellv (i := 1) rfl; clear h10)
                  | fail)
                go_cut [15] (fun xv wx => ∃ xn, xv = .int .i64 xn ∧ Go.Mun.Told p q v10 u8 v10 (t + 1) (doneP S la) S (doneP S la) xn w wx)
                case first =>
                  go_wp2_with (first
                    | (go_at_call 12; (refine (Ib_write H10.out (by omega) (HS.out.ext rOp_stays H10.out.below) HSM.out).mono ?_); rintro e wd ⟨xn, rfl, HT⟩)
                    | (go_at_call 13; (refine (NU.out _ _).mono ?_); rintro e wn ⟨rfl, rfl⟩)
                    | fail)
                  go_meet
                  exact ⟨xn, rfl, HT⟩
                case rest =>
                  obtain ⟨xn, rfl, hT⟩ := hcut
                  rcases hT with ⟨rfl, M1, cl1, o1, h1⟩ | ⟨rfl, M1, o1, h1⟩
                  · have H1 := Lib.hid h1
                    clear h1
                    go_wp2_with (first
                      | (go_at_call 22; (refine (Ia_pairs H1.out).mono ?_); rintro e w2 ⟨v2, rfl, s2, hb2⟩; have H2 := Lib.hid (H1.out.ext hb2); have S2 := Lib.hid s2; clear s2)
                      | (go_at_call 23; (refine (SamePairs_true _ _ _ _ S2.out H2.out.pp.slice).mono ?_); rintro e w3 ⟨rfl, hb3⟩; have H3 := Lib.hid (H2.out.ext hb3))
                      | fail)
                    go_roundw
                    case rel => first | exact ⟨t + 1, _, _, by omega, by go_num, .inl ⟨_, _, _, H3.out⟩⟩ | ((repeat apply Exists.intro); exact ⟨⟨t + 1, _, _, by omega, by go_num, .inl ⟨_, _, _, H3.out⟩⟩, rfl⟩)
                    case measure => simp [RowKit.intOf] <;> omega
                  · have H1 := Lib.hid h1
                    clear h1
                    go_wp2_with (first
                      | (go_at_call 25; (refine (Id_dead H1.out).mono ?_); rintro e wn ⟨rfl, rfl⟩)
                      | (go_at_call 22; (refine (Id_pairs H1.out).mono ?_); rintro e w2 ⟨v2, rfl, s2, hb2⟩; have H2 := Lib.hid (H1.out.ext hb2); have S2 := Lib.hid s2; clear s2)
                      | (go_at_call 23; (refine (SamePairs_true _ _ _ _ S2.out H2.out.pp.slice).mono ?_); rintro e w3 ⟨rfl, hb3⟩; have H3 := Lib.hid (H2.out.ext hb3))
                      | fail)
                    go_roundw
                    case rel => first | exact ⟨t + 1, _, _, by omega, by go_num, .inr ⟨_, _, H3.out⟩⟩ | ((repeat apply Exists.intro); exact ⟨⟨t + 1, _, _, by omega, by go_num, .inr ⟨_, _, H3.out⟩⟩, rfl⟩)
                    case measure => simp [RowKit.intOf] <;> omega
              · skip
                go_upto_if 103 with (first
                  | (go_at_call 25; (refine (Ia_dead HA.out).mono ?_); rintro e wn ⟨rfl, rfl⟩)
                  | (go_at_call 13; (refine (NU.out _ _).mono ?_); rintro e wn ⟨rfl, rfl⟩)
                  | ((with_reducible refine gd_alloc ?_); refine wpList_alloc_blk rfl 42 rfl zA ?_; intro w8 hx8 hb8 hl8)
                  | ((with_reducible refine gd_store ?_); refine wpList_store_all rfl 42 (.tmp 14) (.tmp 99) rfl #[.bool true, .slice Al nl cl2] hx8 hTA rfl rfl rfl rfl ?_; intro w9 hx9 hg9; have hb9 := below_blk hb8 hb8.size hg9 (Nat.le_refl _); have H9 := Lib.hid (HA.out.ext hb9); have HX9 := Lib.hid hx9; have x0 := hx9.cellv (i := 0) rfl; have x1 := hx9.cellv (i := 1) rfl; clear hx8 hb8 hx9 hg9 hb9)
                  | fail)
                go_cut [8, 11, 15] (fun pv wv xv wx => ∃ xn, xv = .int .i64 xn ∧ Go.Mun.Told p q pv pv wv (t + 1) S S Sw xn w wx)
                case first =>
                  go_wp2_with (first
                    | (go_at_call 16; (refine (Ia_compact H9.out (by omega)).mono ?_); rintro e wd ⟨xn, rfl, HT⟩)
                    | (go_at_call 13; (refine (NU.out _ _).mono ?_); rintro e wn ⟨rfl, rfl⟩)
                    | fail)
                  go_meet
                  exact ⟨xn, rfl, HT⟩
                case rest =>
                  obtain ⟨xn, rfl, hT⟩ := hcut
                  rcases hT with ⟨rfl, M1, cl1, o1, h1⟩ | ⟨rfl, M1, o1, h1⟩
                  · have H1 := Lib.hid h1
                    clear h1
                    go_wp2_with (first
                      | (go_at_call 22; (refine (Ia_pairs H1.out).mono ?_); rintro e w2 ⟨v2, rfl, s2, hb2⟩; have H2 := Lib.hid (H1.out.ext hb2); have S2 := Lib.hid s2; clear s2)
                      | (go_at_call 23; (refine (SamePairs_true _ _ _ _ S2.out H2.out.pp.slice).mono ?_); rintro e w3 ⟨rfl, hb3⟩; have H3 := Lib.hid (H2.out.ext hb3))
                      | fail)
                    go_roundw
                    case rel => first | exact ⟨t + 1, _, _, by omega, by go_num, .inl ⟨_, _, _, H3.out⟩⟩ | ((repeat apply Exists.intro); exact ⟨⟨t + 1, _, _, by omega, by go_num, .inl ⟨_, _, _, H3.out⟩⟩, rfl⟩)
                    case measure => simp [RowKit.intOf] <;> omega
                  · have H1 := Lib.hid h1
                    clear h1
                    go_wp2_with (first
                      | (go_at_call 25; (refine (Id_dead H1.out).mono ?_); rintro e wn ⟨rfl, rfl⟩)
                      | (go_at_call 22; (refine (Id_pairs H1.out).mono ?_); rintro e w2 ⟨v2, rfl, s2, hb2⟩; have H2 := Lib.hid (H1.out.ext hb2); have S2 := Lib.hid s2; clear s2)
                      | (go_at_call 23; (refine (SamePairs_true _ _ _ _ S2.out H2.out.pp.slice).mono ?_); rintro e w3 ⟨rfl, hb3⟩; have H3 := Lib.hid (H2.out.ext hb3))
                      | fail)
                    go_roundw
                    case rel => first | exact ⟨t + 1, _, _, by omega, by go_num, .inr ⟨_, _, H3.out⟩⟩ | ((repeat apply Exists.intro); exact ⟨⟨t + 1, _, _, by omega, by go_num, .inr ⟨_, _, H3.out⟩⟩, rfl⟩)
                    case measure => simp [RowKit.intOf] <;> omega
            · have HD := Lib.hid hd
              clear hd
              go_upto_region 37 with (first
                | (go_at_call 25; (refine (Id_dead HD.out).mono ?_); rintro e wn ⟨rfl, rfl⟩)
                | (go_at_call 12; (refine (Id_write HD.out (by omega)).mono ?_); rintro e wz ⟨rfl, hz⟩; have HZ := Lib.hid hz; clear hz)
                | (go_at_call 13; (refine (NU.out _ _).mono ?_); rintro e wn ⟨rfl, rfl⟩)
                | fail)
              rcases HZ.out.of with hf | hf
              · have HF := Lib.hid hf
                clear hf
                have tokO : True := trivial
                have tokP : True := trivial
                have tokS : True := trivial
                have tokT : True := trivial
                go_wp2_with (first
                  | (go_at_call 24; (refine (Of_plan HF.out).mono ?_); rintro e x1 ⟨rfl, o1, f1⟩; have F1 := Lib.hid f1; clear f1)
                  | (go_at_call 26; (refine (Of_start F1.out).mono ?_); rintro e x2 ⟨rfl, f2⟩; have F2 := Lib.hid f2; clear f2)
                  | (go_at_call 11; have _t := tokO; (refine (Of_open 2 F2.out rfl (by decide) (by omega)).mono ?_); rintro e x3 ⟨q3, rfl, c3, o3, k3, f3, t3⟩; have K3 := Lib.hid k3; have F3 := Lib.hid f3; clear k3 f3 t3 tokO)
                  | (go_at_call 13; (refine (NU.out _ _).mono ?_); rintro e wn ⟨rfl, rfl⟩)
                  | (go_at_call 22; have _t := tokP; (refine (PairsK_t K3.out).mono ?_); rintro e x4 ⟨v4, rfl, p4, hb4⟩; have F4 := Lib.hid (F3.out.ext hb4); have P4 := Lib.hid p4; clear p4 tokP)
                  | (go_at_call 11; (refine (Of_open 3 F4.out rfl (by decide) (by omega)).mono ?_); rintro e x5 ⟨q5, rfl, c5, o5, k5, f5, t5⟩; have K5 := Lib.hid k5; have F5 := Lib.hid f5; have P5 := Lib.hid (P4.out.turn t5); clear k5 f5 t5)
                  | (go_at_call 23; have _t := tokS; (refine (SamePairs_true _ _ _ _ P5.out.slice F5.out.p1.slice).mono ?_); rintro e x6 ⟨rfl, hb6⟩; have F6 := Lib.hid (F5.out.ext hb6); have P6 := Lib.hid (P5.out.ext F5.out.ft.own hb6); have K6 := Lib.hid (K5.out.ext hb6); clear tokS)
                  | (go_at_call 22; (refine (PairsK_t K6.out).mono ?_); rintro e x7 ⟨v7, rfl, p7, hb7⟩; have F7 := Lib.hid (F6.out.ext hb7); have P7 := Lib.hid (P6.out.ext F6.out.ft.own hb7); have Q7 := Lib.hid p7; clear p7)
                  | (go_at_call 23; (refine (SamePairs_true _ _ _ _ Q7.out.slice P7.out.slice).mono ?_); rintro e x8 ⟨rfl, hb8⟩; have C8 := Lib.hid (show Co p v4 t _ _ o5 w x8 from ⟨F7.out.ft.ext hb8, rfl, P7.out.ext F7.out.ft.own hb8⟩))
                  | fail)
                go_roundw
                case rel => first | exact ⟨i + 1, t, _, _, _, by omega, by omega, by go_num, rfl, C8.out⟩ | ((repeat apply Exists.intro); exact ⟨⟨i + 1, t, _, _, _, by omega, by omega, by go_num, rfl, C8.out⟩, rfl⟩)
                case measure => simp [RowKit.intOf] <;> omega
              · have HF := Lib.hid hf
                clear hf
                by_cases hne : Sw = S
                · subst hne
                  have tokO : True := trivial
                  have tokP : True := trivial
                  have tokS : True := trivial
                  have tokT : True := trivial
                  go_wp2_with (first
                    | (go_at_call 24; (refine (Of_plan HF.out).mono ?_); rintro e x1 ⟨rfl, o1, f1⟩; have F1 := Lib.hid f1; clear f1)
                    | (go_at_call 26; (refine (Of_start F1.out).mono ?_); rintro e x2 ⟨rfl, f2⟩; have F2 := Lib.hid f2; clear f2)
                    | (go_at_call 11; have _t := tokO; (refine (Of_open 2 F2.out rfl (by decide) (by omega)).mono ?_); rintro e x3 ⟨q3, rfl, c3, o3, k3, f3, t3⟩; have K3 := Lib.hid k3; have F3 := Lib.hid f3; clear k3 f3 t3 tokO)
                    | (go_at_call 13; (refine (NU.out _ _).mono ?_); rintro e wn ⟨rfl, rfl⟩)
                    | (go_at_call 22; have _t := tokP; (refine (PairsK_t K3.out).mono ?_); rintro e x4 ⟨v4, rfl, p4, hb4⟩; have F4 := Lib.hid (F3.out.ext hb4); have P4 := Lib.hid p4; clear p4 tokP)
                    | (go_at_call 11; (refine (Of_open 3 F4.out rfl (by decide) (by omega)).mono ?_); rintro e x5 ⟨q5, rfl, c5, o5, k5, f5, t5⟩; have K5 := Lib.hid k5; have F5 := Lib.hid f5; have P5 := Lib.hid (P4.out.turn t5); clear k5 f5 t5)
                    | (go_at_call 23; have _t := tokS; (refine (SamePairs_true _ _ _ _ P5.out.slice F5.out.p1.slice).mono ?_); rintro e x6 ⟨rfl, hb6⟩; have F6 := Lib.hid (F5.out.ext hb6); have P6 := Lib.hid (P5.out.ext F5.out.ft.own hb6); have K6 := Lib.hid (K5.out.ext hb6); clear tokS)
                    | (go_at_call 22; (refine (PairsK_t K6.out).mono ?_); rintro e x7 ⟨v7, rfl, p7, hb7⟩; have F7 := Lib.hid (F6.out.ext hb7); have P7 := Lib.hid (P6.out.ext F6.out.ft.own hb7); have Q7 := Lib.hid p7; clear p7)
                    | (go_at_call 23; (refine (SamePairs_true _ _ _ _ Q7.out.slice P7.out.slice).mono ?_); rintro e x8 ⟨rfl, hb8⟩; have C8 := Lib.hid (show Co p v4 t _ _ o5 w x8 from ⟨F7.out.ft.ext hb8, rfl, P7.out.ext F7.out.ft.own hb8⟩))
                    | fail)
                  go_roundw
                  case rel => first | exact ⟨i + 1, t, _, _, _, by omega, by omega, by go_num, rfl, C8.out⟩ | ((repeat apply Exists.intro); exact ⟨⟨i + 1, t, _, _, _, by omega, by omega, by go_num, rfl, C8.out⟩, rfl⟩)
                  case measure => simp [RowKit.intOf] <;> omega
                · have HNE := Lib.hid hne
                  clear hne
                  have tokO : True := trivial
                  have tokP : True := trivial
                  have tokS : True := trivial
                  have tokT : True := trivial
                  go_wp2_with (first
                    | (go_at_call 24; (refine (Of_plan HF.out).mono ?_); rintro e x1 ⟨rfl, o1, f1⟩; have F1 := Lib.hid f1; clear f1)
                    | (go_at_call 26; (refine (Of_start F1.out).mono ?_); rintro e x2 ⟨rfl, f2⟩; have F2 := Lib.hid f2; clear f2)
                    | (go_at_call 11; have _t := tokO; (refine (Of_open 2 F2.out rfl (by decide) (by omega)).mono ?_); rintro e x3 ⟨q3, rfl, c3, o3, k3, f3, t3⟩; have K3 := Lib.hid k3; have F3 := Lib.hid f3; clear k3 f3 t3 tokO)
                    | (go_at_call 13; (refine (NU.out _ _).mono ?_); rintro e wn ⟨rfl, rfl⟩)
                    | (go_at_call 22; have _t := tokP; (refine (PairsK_t K3.out).mono ?_); rintro e x4 ⟨v4, rfl, p4, hb4⟩; have F4 := Lib.hid (F3.out.ext hb4); have P4 := Lib.hid p4; clear p4 tokP)
                    | (go_at_call 11; (refine (Of_open 3 F4.out rfl (by decide) (by omega)).mono ?_); rintro e x5 ⟨q5, rfl, c5, o5, k5, f5, t5⟩; have K5 := Lib.hid k5; have F5 := Lib.hid f5; have P5 := Lib.hid (P4.out.turn t5); clear k5 f5 t5)
                    | (go_at_call 23; have _t := tokS; (refine (SamePairs_no _ _ _ _ _ P5.out.slice F5.out.p1.slice HNE.out).mono ?_); rintro e x6 ⟨rfl, hb6⟩; have F6a := Lib.hid (F5.out.ext hb6); have P6a := Lib.hid (P5.out.ext F5.out.ft.own hb6); have K6a := Lib.hid (K5.out.ext hb6); clear tokS)
                    | (go_at_call 23; have _t := tokT; (refine (SamePairs_true _ _ _ _ P6a.out.slice F6a.out.p2.slice).mono ?_); rintro e x6 ⟨rfl, hb6⟩; have F6 := Lib.hid (F6a.out.ext hb6); have P6 := Lib.hid (P6a.out.ext F6a.out.ft.own hb6); have K6 := Lib.hid (K6a.out.ext hb6); clear tokT)
                    | (go_at_call 22; (refine (PairsK_t K6.out).mono ?_); rintro e x7 ⟨v7, rfl, p7, hb7⟩; have F7 := Lib.hid (F6.out.ext hb7); have P7 := Lib.hid (P6.out.ext F6.out.ft.own hb7); have Q7 := Lib.hid p7; clear p7)
                    | (go_at_call 23; (refine (SamePairs_true _ _ _ _ Q7.out.slice P7.out.slice).mono ?_); rintro e x8 ⟨rfl, hb8⟩; have C8 := Lib.hid (show Co p v4 t _ _ o5 w x8 from ⟨F7.out.ft.ext hb8, rfl, P7.out.ext F7.out.ft.own hb8⟩))
                    | fail)
                  go_roundw
                  case rel => first | exact ⟨i + 1, t, _, _, _, by omega, by omega, by go_num, rfl, C8.out⟩ | ((repeat apply Exists.intro); exact ⟨⟨i + 1, t, _, _, _, by omega, by omega, by go_num, rfl, C8.out⟩, rfl⟩)
                  case measure => simp [RowKit.intOf] <;> omega
          · obtain rfl : t = n := by omega
            have f0 : decide ((t : Int) < (t : Int)) = false := decide_eq_false (by omega)
            rcases hin with ⟨M, cl, o, ha⟩ | ⟨M, o, hd⟩
            · have HA := Lib.hid ha
              clear ha
              go_upto_region 37 with (first
                | (go_at_call 25; (refine (Ia_dead HA.out).mono ?_); rintro e wn ⟨rfl, rfl⟩)
                | (go_at_call 13; (refine (NU.out _ _).mono ?_); rintro e wn ⟨rfl, rfl⟩)
                | fail)
              have HF := Lib.hid HA.out.of
              have tokO : True := trivial
              have tokP : True := trivial
              have tokS : True := trivial
              have tokT : True := trivial
              go_wp2_with (first
                | (go_at_call 24; (refine (Of_plan HF.out).mono ?_); rintro e x1 ⟨rfl, o1, f1⟩; have F1 := Lib.hid f1; clear f1)
                | (go_at_call 26; (refine (Of_start F1.out).mono ?_); rintro e x2 ⟨rfl, f2⟩; have F2 := Lib.hid f2; clear f2)
                | (go_at_call 11; have _t := tokO; (refine (Of_open 2 F2.out rfl (by decide) (by omega)).mono ?_); rintro e x3 ⟨q3, rfl, c3, o3, k3, f3, t3⟩; have K3 := Lib.hid k3; have F3 := Lib.hid f3; clear k3 f3 t3 tokO)
                | (go_at_call 13; (refine (NU.out _ _).mono ?_); rintro e wn ⟨rfl, rfl⟩)
                | (go_at_call 22; have _t := tokP; (refine (PairsK_t K3.out).mono ?_); rintro e x4 ⟨v4, rfl, p4, hb4⟩; have F4 := Lib.hid (F3.out.ext hb4); have P4 := Lib.hid p4; clear p4 tokP)
                | (go_at_call 11; (refine (Of_open 3 F4.out rfl (by decide) (by omega)).mono ?_); rintro e x5 ⟨q5, rfl, c5, o5, k5, f5, t5⟩; have K5 := Lib.hid k5; have F5 := Lib.hid f5; have P5 := Lib.hid (P4.out.turn t5); clear k5 f5 t5)
                | (go_at_call 23; have _t := tokS; (refine (SamePairs_true _ _ _ _ P5.out.slice F5.out.p1.slice).mono ?_); rintro e x6 ⟨rfl, hb6⟩; have F6 := Lib.hid (F5.out.ext hb6); have P6 := Lib.hid (P5.out.ext F5.out.ft.own hb6); have K6 := Lib.hid (K5.out.ext hb6); clear tokS)
                | (go_at_call 22; (refine (PairsK_t K6.out).mono ?_); rintro e x7 ⟨v7, rfl, p7, hb7⟩; have F7 := Lib.hid (F6.out.ext hb7); have P7 := Lib.hid (P6.out.ext F6.out.ft.own hb7); have Q7 := Lib.hid p7; clear p7)
                | (go_at_call 23; (refine (SamePairs_true _ _ _ _ Q7.out.slice P7.out.slice).mono ?_); rintro e x8 ⟨rfl, hb8⟩; have C8 := Lib.hid (show Co p v4 t _ _ o5 w x8 from ⟨F7.out.ft.ext hb8, rfl, P7.out.ext F7.out.ft.own hb8⟩))
                | fail)
              go_roundw
              case rel => first | exact ⟨i + 1, t, _, _, _, by omega, by omega, by go_num, rfl, C8.out⟩ | ((repeat apply Exists.intro); exact ⟨⟨i + 1, t, _, _, _, by omega, by omega, by go_num, rfl, C8.out⟩, rfl⟩)
              case measure => simp [RowKit.intOf] <;> omega
            · have HD := Lib.hid hd
              clear hd
              go_upto_region 37 with (first
                | (go_at_call 25; (refine (Id_dead HD.out).mono ?_); rintro e wn ⟨rfl, rfl⟩)
                | (go_at_call 12; (refine (Id_write HD.out (by omega)).mono ?_); rintro e wz ⟨rfl, hz⟩; have HZ := Lib.hid hz; clear hz)
                | (go_at_call 13; (refine (NU.out _ _).mono ?_); rintro e wn ⟨rfl, rfl⟩)
                | fail)
              rcases HZ.out.of with hf | hf
              · have HF := Lib.hid hf
                clear hf
                have tokO : True := trivial
                have tokP : True := trivial
                have tokS : True := trivial
                have tokT : True := trivial
                go_wp2_with (first
                  | (go_at_call 24; (refine (Of_plan HF.out).mono ?_); rintro e x1 ⟨rfl, o1, f1⟩; have F1 := Lib.hid f1; clear f1)
                  | (go_at_call 26; (refine (Of_start F1.out).mono ?_); rintro e x2 ⟨rfl, f2⟩; have F2 := Lib.hid f2; clear f2)
                  | (go_at_call 11; have _t := tokO; (refine (Of_open 2 F2.out rfl (by decide) (by omega)).mono ?_); rintro e x3 ⟨q3, rfl, c3, o3, k3, f3, t3⟩; have K3 := Lib.hid k3; have F3 := Lib.hid f3; clear k3 f3 t3 tokO)
                  | (go_at_call 13; (refine (NU.out _ _).mono ?_); rintro e wn ⟨rfl, rfl⟩)
                  | (go_at_call 22; have _t := tokP; (refine (PairsK_t K3.out).mono ?_); rintro e x4 ⟨v4, rfl, p4, hb4⟩; have F4 := Lib.hid (F3.out.ext hb4); have P4 := Lib.hid p4; clear p4 tokP)
                  | (go_at_call 11; (refine (Of_open 3 F4.out rfl (by decide) (by omega)).mono ?_); rintro e x5 ⟨q5, rfl, c5, o5, k5, f5, t5⟩; have K5 := Lib.hid k5; have F5 := Lib.hid f5; have P5 := Lib.hid (P4.out.turn t5); clear k5 f5 t5)
                  | (go_at_call 23; have _t := tokS; (refine (SamePairs_true _ _ _ _ P5.out.slice F5.out.p1.slice).mono ?_); rintro e x6 ⟨rfl, hb6⟩; have F6 := Lib.hid (F5.out.ext hb6); have P6 := Lib.hid (P5.out.ext F5.out.ft.own hb6); have K6 := Lib.hid (K5.out.ext hb6); clear tokS)
                  | (go_at_call 22; (refine (PairsK_t K6.out).mono ?_); rintro e x7 ⟨v7, rfl, p7, hb7⟩; have F7 := Lib.hid (F6.out.ext hb7); have P7 := Lib.hid (P6.out.ext F6.out.ft.own hb7); have Q7 := Lib.hid p7; clear p7)
                  | (go_at_call 23; (refine (SamePairs_true _ _ _ _ Q7.out.slice P7.out.slice).mono ?_); rintro e x8 ⟨rfl, hb8⟩; have C8 := Lib.hid (show Co p v4 t _ _ o5 w x8 from ⟨F7.out.ft.ext hb8, rfl, P7.out.ext F7.out.ft.own hb8⟩))
                  | fail)
                go_roundw
                case rel => first | exact ⟨i + 1, t, _, _, _, by omega, by omega, by go_num, rfl, C8.out⟩ | ((repeat apply Exists.intro); exact ⟨⟨i + 1, t, _, _, _, by omega, by omega, by go_num, rfl, C8.out⟩, rfl⟩)
                case measure => simp [RowKit.intOf] <;> omega
              · have HF := Lib.hid hf
                clear hf
                by_cases hne : Sw = S
                · subst hne
                  have tokO : True := trivial
                  have tokP : True := trivial
                  have tokS : True := trivial
                  have tokT : True := trivial
                  go_wp2_with (first
                    | (go_at_call 24; (refine (Of_plan HF.out).mono ?_); rintro e x1 ⟨rfl, o1, f1⟩; have F1 := Lib.hid f1; clear f1)
                    | (go_at_call 26; (refine (Of_start F1.out).mono ?_); rintro e x2 ⟨rfl, f2⟩; have F2 := Lib.hid f2; clear f2)
                    | (go_at_call 11; have _t := tokO; (refine (Of_open 2 F2.out rfl (by decide) (by omega)).mono ?_); rintro e x3 ⟨q3, rfl, c3, o3, k3, f3, t3⟩; have K3 := Lib.hid k3; have F3 := Lib.hid f3; clear k3 f3 t3 tokO)
                    | (go_at_call 13; (refine (NU.out _ _).mono ?_); rintro e wn ⟨rfl, rfl⟩)
                    | (go_at_call 22; have _t := tokP; (refine (PairsK_t K3.out).mono ?_); rintro e x4 ⟨v4, rfl, p4, hb4⟩; have F4 := Lib.hid (F3.out.ext hb4); have P4 := Lib.hid p4; clear p4 tokP)
                    | (go_at_call 11; (refine (Of_open 3 F4.out rfl (by decide) (by omega)).mono ?_); rintro e x5 ⟨q5, rfl, c5, o5, k5, f5, t5⟩; have K5 := Lib.hid k5; have F5 := Lib.hid f5; have P5 := Lib.hid (P4.out.turn t5); clear k5 f5 t5)
                    | (go_at_call 23; have _t := tokS; (refine (SamePairs_true _ _ _ _ P5.out.slice F5.out.p1.slice).mono ?_); rintro e x6 ⟨rfl, hb6⟩; have F6 := Lib.hid (F5.out.ext hb6); have P6 := Lib.hid (P5.out.ext F5.out.ft.own hb6); have K6 := Lib.hid (K5.out.ext hb6); clear tokS)
                    | (go_at_call 22; (refine (PairsK_t K6.out).mono ?_); rintro e x7 ⟨v7, rfl, p7, hb7⟩; have F7 := Lib.hid (F6.out.ext hb7); have P7 := Lib.hid (P6.out.ext F6.out.ft.own hb7); have Q7 := Lib.hid p7; clear p7)
                    | (go_at_call 23; (refine (SamePairs_true _ _ _ _ Q7.out.slice P7.out.slice).mono ?_); rintro e x8 ⟨rfl, hb8⟩; have C8 := Lib.hid (show Co p v4 t _ _ o5 w x8 from ⟨F7.out.ft.ext hb8, rfl, P7.out.ext F7.out.ft.own hb8⟩))
                    | fail)
                  go_roundw
                  case rel => first | exact ⟨i + 1, t, _, _, _, by omega, by omega, by go_num, rfl, C8.out⟩ | ((repeat apply Exists.intro); exact ⟨⟨i + 1, t, _, _, _, by omega, by omega, by go_num, rfl, C8.out⟩, rfl⟩)
                  case measure => simp [RowKit.intOf] <;> omega
                · have HNE := Lib.hid hne
                  clear hne
                  have tokO : True := trivial
                  have tokP : True := trivial
                  have tokS : True := trivial
                  have tokT : True := trivial
                  go_wp2_with (first
                    | (go_at_call 24; (refine (Of_plan HF.out).mono ?_); rintro e x1 ⟨rfl, o1, f1⟩; have F1 := Lib.hid f1; clear f1)
                    | (go_at_call 26; (refine (Of_start F1.out).mono ?_); rintro e x2 ⟨rfl, f2⟩; have F2 := Lib.hid f2; clear f2)
                    | (go_at_call 11; have _t := tokO; (refine (Of_open 2 F2.out rfl (by decide) (by omega)).mono ?_); rintro e x3 ⟨q3, rfl, c3, o3, k3, f3, t3⟩; have K3 := Lib.hid k3; have F3 := Lib.hid f3; clear k3 f3 t3 tokO)
                    | (go_at_call 13; (refine (NU.out _ _).mono ?_); rintro e wn ⟨rfl, rfl⟩)
                    | (go_at_call 22; have _t := tokP; (refine (PairsK_t K3.out).mono ?_); rintro e x4 ⟨v4, rfl, p4, hb4⟩; have F4 := Lib.hid (F3.out.ext hb4); have P4 := Lib.hid p4; clear p4 tokP)
                    | (go_at_call 11; (refine (Of_open 3 F4.out rfl (by decide) (by omega)).mono ?_); rintro e x5 ⟨q5, rfl, c5, o5, k5, f5, t5⟩; have K5 := Lib.hid k5; have F5 := Lib.hid f5; have P5 := Lib.hid (P4.out.turn t5); clear k5 f5 t5)
                    | (go_at_call 23; have _t := tokS; (refine (SamePairs_no _ _ _ _ _ P5.out.slice F5.out.p1.slice HNE.out).mono ?_); rintro e x6 ⟨rfl, hb6⟩; have F6a := Lib.hid (F5.out.ext hb6); have P6a := Lib.hid (P5.out.ext F5.out.ft.own hb6); have K6a := Lib.hid (K5.out.ext hb6); clear tokS)
                    | (go_at_call 23; have _t := tokT; (refine (SamePairs_true _ _ _ _ P6a.out.slice F6a.out.p2.slice).mono ?_); rintro e x6 ⟨rfl, hb6⟩; have F6 := Lib.hid (F6a.out.ext hb6); have P6 := Lib.hid (P6a.out.ext F6a.out.ft.own hb6); have K6 := Lib.hid (K6a.out.ext hb6); clear tokT)
                    | (go_at_call 22; (refine (PairsK_t K6.out).mono ?_); rintro e x7 ⟨v7, rfl, p7, hb7⟩; have F7 := Lib.hid (F6.out.ext hb7); have P7 := Lib.hid (P6.out.ext F6.out.ft.own hb7); have Q7 := Lib.hid p7; clear p7)
                    | (go_at_call 23; (refine (SamePairs_true _ _ _ _ Q7.out.slice P7.out.slice).mono ?_); rintro e x8 ⟨rfl, hb8⟩; have C8 := Lib.hid (show Co p v4 t _ _ o5 w x8 from ⟨F7.out.ft.ext hb8, rfl, P7.out.ext F7.out.ft.own hb8⟩))
                    | fail)
                  go_roundw
                  case rel => first | exact ⟨i + 1, t, _, _, _, by omega, by omega, by go_num, rfl, C8.out⟩ | ((repeat apply Exists.intro); exact ⟨⟨i + 1, t, _, _, _, by omega, by omega, by go_num, rfl, C8.out⟩, rfl⟩)
                  case measure => simp [RowKit.intOf] <;> omega
    · obtain rfl : i = nc + 1 := by omega
      have f1 : decide (((nc + 1 : Nat) : Int) ≤ (nc : Int)) = false := decide_eq_false (by omega)
      go_wp2
      go_ret
      exact ⟨rfl, H0.out.below⟩
open Go.ChangeShapes Go.WideShapes Go.ChangeAt

set_option maxRecDepth 100000 in
theorem lifted (os : Os) (started : os.Started) (H : Type) (enc : TypeId × Value → H) :
    ReturnsInHanded {} Try.checked os 6 .any (Rows.kvCrashesSpec.pre6 enc Try.prog Try.f6 Rows.kvCrashesRow.domain false) (Rows.kvCrashesSpec.post enc Try.prog Try.f6 false true false false) := by
  refine law_lift (C := Try.checked) (ts := [38, 54]) (tb := 4) (by kernel_rfl) started (by kernel_rfl) Try.func6
    (ChangeSpec.witness6 (enc := enc) (C := Try.checked) false ⟨#[], #[.slice none 0 0, .slice none 0 0], []⟩ 8 (by kernel_rfl) (by kernel_rfl) (by kernel_rfl) (by kernel_rfl))
    (by kernel_rfl) (by kernel_rfl) (by kernel_rfl) (by kernel_rfl) Try.underlying4 rfl (fun ds h => by match ds, h with | [_, _], _ => rfl) ?_
  intro W vs hlen h
  match vs, hlen with
  | [v0, v1], _ =>
    have hl := h 0 _ v0 rfl rfl
    have hc := h 1 _ v1 rfl rfl
    obtain ⟨ls, h1⟩ := arg_slice Try.underlying38 (by kernel_rfl) (opens_actK enc) hl
    obtain ⟨cs, h2⟩ := arg_slice Try.underlying54 (by kernel_rfl) (opens_cr enc) hc
    obtain ⟨A2, nc, c2, _, rfl, _⟩ := id h2
    by_cases hs : SmallA ls
    · by_cases hn : 10 < nc
      · exact early2 _ ls _ _ _ W h1 hs hn
      · exact main _ ls _ _ _ cs W h1 hs h2 (by omega)
    · exact early1 _ ls _ _ _ W h1 hs

theorem over : Rows.kvCrashesRow.holds Try.pinned (OpenSpec.ofChange Rows.kvCrashesSpec) :=
  OpenClaim.holds_of_wide 6 Try.f6 rfl rfl rfl rfl rfl rfl rfl ⟨rfl, rfl, rfl, rfl, rfl⟩ rfl rfl rfl rfl rfl (by kernel_rfl) Try.func6 (by kernel_rfl)
    (of_decide_eq_true (by kernel_rfl)) (by unfold Func.isWrapper; first | (rw [if_pos (by decide +kernel)]; kernel_rfl) | (rw [if_neg (by decide +kernel)]; exact ⟨rfl, rfl⟩))
    (fun os started H enc _ => lifted os started H enc)
end Go.Proofs.Ythjnebngdcdicaa.KvCrashes
namespace Go.Proofs.Ythjnebngdcdicaa
theorem kvCrashes_holds : Rows.KvCrashesSaid := KvCrashes.over
#print axioms kvCrashes_holds
end Go.Proofs.Ythjnebngdcdicaa
