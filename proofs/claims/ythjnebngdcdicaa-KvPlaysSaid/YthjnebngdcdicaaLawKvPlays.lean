/- 'KvPlays' answers true at every input, and leaves what it was given. No condition. -/
import Derived.Test.YthjnebngdcdicaaKvPl
import Derived.Test.YthjnebngdcdicaaRows
namespace Go.Proofs.Ythjnebngdcdicaa.KvPlays
open Go Go.RowKit Go.Mun Go.Proofs Go.Maps

theorem pairsO_sl {base : Nat} {w : World} {v : Value} {S : PLB} (h : PairsO base w v S) : ∃ A c, v = .slice A S.length c := by
  obtain ⟨xs, g1, _⟩ := h
  obtain ⟨A, c, e⟩ := own_sl g1
  exact ⟨A, c, e⟩
theorem BigA_no (v : Value) (l : List ActK) (w : World) (h : SliceOf 2 rActK w v l) (hs : SmallA l) :
    Calls Try.prog 15 #[v] w fun e w' => e = .returned (.bool false) ∧ w = w' := by
  refine (BigA_any v l w h).mono ?_
  rintro e w' ⟨B, rfl, rfl, hB⟩
  rw [hB.2 hs]
  exact ⟨rfl, rfl⟩
theorem BigA_yes (v : Value) (l : List ActK) (w : World) (h : SliceOf 2 rActK w v l) (hs : ¬ SmallA l) :
    Calls Try.prog 15 #[v] w fun e w' => e = .returned (.bool true) ∧ w = w' := by
  refine (BigA_any v l w h).mono ?_
  rintro e w' ⟨B, rfl, rfl, hB⟩
  cases B with
  | false => exact absurd (hB.1 rfl) hs
  | true => exact ⟨rfl, rfl⟩
set_option maxRecDepth 100000 in
theorem early (v : Value) (l : List ActK) (w : World) (h : SliceOf 2 rActK w v l) (hs : ¬ SmallA l) :
    Calls Try.prog 4 #[v] w fun e w' => e = .returned (.bool true) ∧ Below w.heap.size w w' := by
  have CA := Lib.hid alive23_any
  have CB := Lib.hid (fun w' (hb : Below w.heap.size w w') => BigA_yes v l w' (h.ext rActK_stays hb) hs)
  clear h
  go_enter Try.func4, Try.ntmps4
  go_wp2_with (first
    | (go_at_call 9; (refine (CA.out _).mono ?_); rintro e wa ⟨rfl, hba⟩)
    | (go_at_call 15; (refine (CB.out _ hba).mono ?_); rintro e wn ⟨rfl, rfl⟩)
    | fail)
  go_ret
  exact ⟨rfl, hba⟩
set_option maxRecDepth 100000 in
set_option maxHeartbeats 16000000 in
theorem main (v : Value) (l : List ActK) (w : World) (h : SliceOf 2 rActK w v l) (hsa : SmallA l) :
    Calls Try.prog 4 #[v] w fun e w' => e = .returned (.bool true) ∧ Below w.heap.size w w' := by
  have CA := Lib.hid alive23_any
  have NU := Lib.hid num_any
  have CB := Lib.hid (fun w' (hb : Below w.heap.size w w') => BigA_no v l w' (h.ext rActK_stays hb) hsa)
  have HSA := Lib.hid hsa
  obtain ⟨A, n, c, xs, rfl, g1, g2, g3, g4, g5, g6⟩ := h
  unfold maxLen at g4
  have hn30 : n ≤ 30 := by have := hsa.len; omega
  have HX := Lib.hid (fun k (hk : k < n) => actK_at g5 g1 g2 g6 hk)
  clear g1 g2 g5 g6 hsa
  go_enter Try.func4, Try.ntmps4
  go_wp2_with (first
    | (go_at_call 9; (refine (CA.out _).mono ?_); rintro e wa ⟨rfl, hba⟩; have N0 := Lib.hid (New_up (w0 := w) (w := wa) (o := fun _ => none) 0 (fun _ _ => rfl) hba (fun _ _ => rfl)))
    | (go_at_call 15; (refine (CB.out _ hba).mono ?_); rintro e wn ⟨rfl, rfl⟩)
    | (go_at_call 10; (refine N0.out.mono ?_); rintro e w1 ⟨p, o1, rfl, h1, T1⟩)
    | (go_at_call 11; (refine (Pl_open h1).mono ?_); rintro e w2 ⟨q, rfl, h2⟩)
    | (go_at_call 13; (refine (NU.out _ _).mono ?_); rintro e wn ⟨rfl, rfl⟩)
    | fail)
  go_loopw [8, 9] (fun vp iv wr => ∃ (i : Nat) (S : PLB), i ≤ n ∧ iv = .int .i64 (i : Nat) ∧ Pl p q vp i S w wr) (fun _ iv _ => n - (RowKit.intOf iv).toNat)
  case atStart => exact ⟨0, [], Nat.zero_le _, rfl, h2⟩
  case round =>
    obtain ⟨i, S, hi, rfl, hp⟩ := hrel
    have HP := Lib.hid hp
    clear hp
    by_cases hlt : i < n
    · have f0 : decide ((i : Int) < (n : Int)) = true := decide_eq_true (by omega)
      have z1 : (0 : Int) ≤ i := by omega
      have z2 : (i : Int) < n := by omega
      obtain ⟨ad, a, vl, rfl, c0, c1, ha, hs⟩ := HX.out i hlt
      have HSM := Lib.hid (HSA.out.each a (List.mem_of_getElem? ha))
      have HS := Lib.hid hs
      have HC1 := Lib.hid (fun w' (hb : Below w.heap.size w w') => cell_ext hb c1)
      have y0 := cell_ext HP.out.below c0
      have y1 := HC1.out wr HP.out.below
      have tokB : True := trivial
      obtain ⟨compact, la⟩ := a
      simp only at c0 y0 hs HS HSM
      clear ha hs c0 c1
      cases compact
      · skip
        go_wp2_with (first
          | (go_at_call 12; (refine (Pl_write HP.out (by omega) (HS.out.ext rOp_stays HP.out.below) HSM.out).mono ?_); rintro e w3 ⟨rfl, h3⟩; have H3 := Lib.hid h3; clear h3; have y2 := HC1.out _ H3.out.below)
          | (go_at_call 19; (refine (Pm_done H3.out (by omega) (HS.out.ext rOp_stays H3.out.below) HSM.out).mono ?_); rintro e w4 ⟨v4, rfl, h4, hb4⟩; have H4B := Lib.hid h4; clear h4)
          | (go_at_call 13; (refine (NU.out _ _).mono ?_); rintro e wn ⟨rfl, rfl⟩)
          | (go_at_call 20; (refine (Pl_held H4B.out).mono ?_); rintro e w5 ⟨rfl, hb5⟩; obtain ⟨m5, c5, t5⟩ := Pl_bytes H4B.out (by omega); have C5 := Lib.hid c5; have T5 := Lib.hid t5; clear c5 t5)
          | (go_at_call 17; (refine (C5.out _ hb5).mono ?_); rintro e w6 ⟨rfl, hb6⟩; have hb56 := below_step hb5 hb6)
          | (go_at_call 21; (refine (T5.out _ hb56).mono ?_); rintro e w7 ⟨rfl, hb7⟩; have hb57 := below_step hb56 hb7; have h7 := Lib.hid (H4B.out.ext hb57))
          | fail)
        go_roundw
        case rel => first | exact ⟨i + 1, _, by omega, by go_num, h7.out⟩ | ((repeat apply Exists.intro); exact ⟨⟨i + 1, _, by omega, by go_num, h7.out⟩, rfl⟩)
        case measure => simp [RowKit.intOf]; omega
      · skip
        go_wp2_with (first
          | (go_at_call 16; (refine (Pl_compact HP.out (by omega)).mono ?_); rintro e w3 ⟨rfl, h3⟩; have H3 := Lib.hid h3; clear h3)
          | (go_at_call 13; (refine (NU.out _ _).mono ?_); rintro e wn ⟨rfl, rfl⟩)
          | (go_at_call 17; have _t := tokB; (refine (Pc_bytes H3.out (by omega)).mono ?_); rintro e w4 ⟨m, rfl, hm, hb4⟩; clear tokB; have H4 := Lib.hid (H3.out.ext hb4); have CBO := bound_any _ S w4 H4.out.pairs (H4.out.small.fit (by omega)); obtain ⟨bb, hbb⟩ : ∃ b : Nat, b = 4096 + 2 * (batchB (opsOf S)).length := ⟨_, rfl⟩; rw [← hbb] at CBO; have CBO2 := Lib.hid CBO; have fm : decide ((bb : Int) < (m : Int)) = false := decide_eq_false (by omega); have fm2 : decide (bb < m) = false := decide_eq_false (by omega); have fm3 : (bb < m) = False := eq_false (by omega); clear CBO hm hbb)
          | (go_at_call 18; (refine CBO2.out.mono ?_); rintro e w4b ⟨rfl, hb4b⟩; have h4 := (H4.out.ext hb4b).pl (by omega); have H4B := Lib.hid h4; clear h4)
          | (go_at_call 20; (refine (Pl_held H4B.out).mono ?_); rintro e w5 ⟨rfl, hb5⟩; obtain ⟨m5, c5, t5⟩ := Pl_bytes H4B.out (by omega); have C5 := Lib.hid c5; have T5 := Lib.hid t5; clear c5 t5)
          | (go_at_call 17; (refine (C5.out _ hb5).mono ?_); rintro e w6 ⟨rfl, hb6⟩; have hb56 := below_step hb5 hb6)
          | (go_at_call 21; (refine (T5.out _ hb56).mono ?_); rintro e w7 ⟨rfl, hb7⟩; have hb57 := below_step hb56 hb7; have h7 := Lib.hid (H4B.out.ext hb57))
          | fail)
        go_roundw
        case rel => first | exact ⟨i + 1, _, by omega, by go_num, h7.out⟩ | ((repeat apply Exists.intro); exact ⟨⟨i + 1, _, by omega, by go_num, h7.out⟩, rfl⟩)
        case measure => simp [RowKit.intOf]; omega
    · obtain rfl : i = n := by omega
      have f0 : decide ((i : Int) < (i : Int)) = false := decide_eq_false (by omega)
      obtain ⟨wb, hwb⟩ : ∃ x, x = wr := ⟨_, rfl⟩
      subst hwb
      go_wp2_with (first
        | (go_at_call 22; (refine (Pl_pairs HP.out).mono ?_); rintro e w3 ⟨v3, rfl, h3, hb3⟩; have HR := Lib.hid h3.rowM; obtain ⟨A3, c3, rfl⟩ := pairsO_sl h3; clear h3)
        | fail)
      obtain ⟨ns, hns⟩ : ∃ x, x = S.length := ⟨_, rfl⟩
      rw [← hns] at HR ⊢
      have hnsb : ns ≤ 1860 := by have := HP.out.small.len; omega
      clear hns
      go_loopw [14] (fun kv wq => ∃ k : Nat, k ≤ ns ∧ kv = .int .i64 (k : Nat) ∧ RowM wb.heap.size wq (.slice A3 ns c3) ns ∧ Below wb.heap.size wb wq) (fun kv _ => ns - (RowKit.intOf kv).toNat)
      case atStart => exact ⟨0, Nat.zero_le _, rfl, HR.out, hb3⟩
      case round =>
        obtain ⟨k, hk, rfl, hrm, hbq⟩ := hrel
        by_cases hkn : k < ns
        · obtain ⟨ad, B, m, c2, l, rfl, hc, hl, hrow⟩ := hrm.at_ hkn
          have HRM := Lib.hid hrm
          have HC := Lib.hid hc
          have g0 : decide ((k : Int) < (ns : Int)) = true := decide_eq_true (by omega)
          have z1 : (0 : Int) ≤ k := by omega
          have z2 : (k : Int) < ns := by omega
          clear hrm hc hl hrow
          go_wp2_with fail
          go_loopw [15] (fun jv wx => ∃ j : Nat, j ≤ m ∧ jv = .int .i64 (j : Nat) ∧ RowM wb.heap.size wx (.slice (some ad) ns c3) ns ∧ wx.cell? ⟨(ad.add (k * 2)).block, (ad.add (k * 2)).off + 1, none⟩ = some (.slice B m c2) ∧ Below wb.heap.size wb wx) (fun jv _ => m - (RowKit.intOf jv).toNat)
          case atStart => exact ⟨0, Nat.zero_le _, rfl, HRM.out, HC.out, hbq⟩
          case round =>
            obtain ⟨j, hj, rfl, hrm, hc, hbx⟩ := hrel
            by_cases hjm : j < m
            · have g2 : decide ((j : Int) < (m : Int)) = true := decide_eq_true (by omega)
              have z3 : (0 : Int) ≤ j := by omega
              have z4 : (j : Int) < m := by omega
              obtain ⟨ad', B', m', c2', l', e1, hc', hl', hrow'⟩ := hrm.at_ hkn
              injection e1 with e1
              subst e1
              rw [hc] at hc'
              injection hc' with hc'
              injection hc' with e2 e3 e4
              subst e2 e3 e4
              obtain ⟨b0, hb0⟩ : ∃ b, l'[j]? = some b := ⟨_, List.getElem?_eq_getElem (by omega)⟩
              obtain ⟨g, cur, eB, hbg, hxg, hjc, _⟩ := own_byte hrow' hjm
              subst eB
              have hcb := hrow'.cellAt j (by omega)
              rw [show (bv l')[j]? = some (.int .u8 (b0.toNat : Int)) from by unfold bv; rw [List.getElem?_map, hb0]; rfl] at hcb
              have hmm : m ≤ 9223372036854775807 := by have h0 := Bytes_max (Bytes.own hrow'); unfold maxLen at h0; omega
              have hne := hrm.ne hxg
              have HRM2 := Lib.hid hrm
              have HNE := Lib.hid hne
              have HC2 := Lib.hid hc
              have HBG := Lib.hid hbg
              have HBX := Lib.hid hbx
              clear hrow' hl' hb0 hrm hne hbg hbx hbq
              go_wp2_with fail
              go_upto_region 31 with (fail)
              go_still_tail 16, (by kernel_rfl)
              refine wpList_store_cell rfl 5 (.tmp 125) (.tmp 124) rfl (w := wr.drew) hxg.drew (i := j) (v := .int .u8 (bits .xor .u8 (b0.toNat : Int) 255)) hjc (by kernel_rfl) rfl rfl rfl ?_
              intro w5 hx5 hg5
              rw [flip_u8 b0] at hx5
              have hg6 : wr.grownBy w5 (some g) := ⟨hg5.os, hg5.tape, hg5.output, hg5.size, hg5.block⟩
              have hr5 := HRM2.out.poke hxg hx5 hg6
              have hc5 := cell_poke (a := ⟨(ad.add (k * 2)).block, (ad.add (k * 2)).off + 1, none⟩) HNE.out (add_block ad (k * 2)) hg6 HC2.out
              have hb5 := HBX.out.grown hg6 HBX.out.size (fun k hk => by injection hk with hk; have := HBG.out; omega)
              go_wp2
              go_roundw
              case rel => first | exact ⟨j + 1, by omega, by go_num, hr5, hc5, hb5⟩ | ((repeat apply Exists.intro); exact ⟨⟨j + 1, by omega, by go_num, hr5, hc5, hb5⟩, rfl⟩)
              case measure => simp [RowKit.intOf]; omega
            · obtain rfl : j = m := by omega
              have g2 : decide ((j : Int) < (j : Int)) = false := decide_eq_false (by omega)
              have HRM2 := Lib.hid hrm
              clear hrm
              go_wp2_with fail
              go_roundw
              case rel => first | exact ⟨k + 1, by omega, by go_num, HRM2.out, hbx⟩ | ((repeat apply Exists.intro); exact ⟨⟨k + 1, by omega, by go_num, HRM2.out, hbx⟩, rfl⟩)
              case measure => simp [RowKit.intOf]; omega
        · obtain rfl : k = ns := by omega
          have g0 : decide ((k : Int) < (k : Int)) = false := decide_eq_false (by omega)
          have H5 := Lib.hid (HP.out.ext hbq)
          have tokH : True := trivial
          clear hrm hbq
          go_wp2_with (first
            | (go_at_call 11; (refine (Pl_again H5.out (by omega)).mono ?_); rintro e w6 ⟨q6, rfl, h6, c6, N6, o6, K6⟩; have H6 := Lib.hid h6; have HK6 := Lib.hid K6; clear h6 K6)
            | (go_at_call 13; (refine (NU.out _ _).mono ?_); rintro e wn ⟨rfl, rfl⟩)
            | (go_at_call 20; have _t := tokH; (refine (held_any HK6.out _ H6.out.pairs).mono ?_); rintro e w7 ⟨rfl, hb7⟩; have H7 := Lib.hid (H6.out.ext hb7); clear tokH)
            | (go_at_call 20; (refine (Pl_held H7.out).mono ?_); rintro e w8 ⟨rfl, hb8⟩; have H8 := Lib.hid (H7.out.ext hb8))
            | fail)
          go_ret
          exact ⟨rfl, H8.out.below⟩
open Go.ChangeShapes Go.WideShapes Go.ChangeAt

set_option maxRecDepth 100000 in
theorem lifted (os : Os) (started : os.Started) (H : Type) (enc : TypeId × Value → H) :
    ReturnsInHanded {} Try.checked os 4 .any (Rows.kvPlaysSpec.pre6 enc Try.prog Try.f4 Rows.kvPlaysRow.domain false) (Rows.kvPlaysSpec.post enc Try.prog Try.f4 false true false false) := by
  refine law_lift (C := Try.checked) (ts := [38]) (tb := 4) (by kernel_rfl) started (by kernel_rfl) Try.func4
    (ChangeSpec.witness6 (enc := enc) (C := Try.checked) false ⟨#[], #[.slice none 0 0], []⟩ 8 (by kernel_rfl) (by kernel_rfl) (by kernel_rfl) (by kernel_rfl))
    (by kernel_rfl) (by kernel_rfl) (by kernel_rfl) (by kernel_rfl) Try.underlying4 rfl (fun ds h => by match ds, h with | [_], _ => rfl) ?_
  intro W vs hlen h
  match vs, hlen with
  | [v0], _ =>
    have hl := h 0 _ v0 rfl rfl
    obtain ⟨ls, h1⟩ := arg_slice Try.underlying38 (by kernel_rfl) (opens_actK enc) hl
    by_cases hs : SmallA ls
    · exact main _ ls W h1 hs
    · exact early _ ls W h1 hs

theorem over : Rows.kvPlaysRow.holds Try.pinned (OpenSpec.ofChange Rows.kvPlaysSpec) :=
  OpenClaim.holds_of_wide 4 Try.f4 rfl rfl rfl rfl rfl rfl rfl ⟨rfl, rfl, rfl, rfl, rfl⟩ rfl rfl rfl rfl rfl (by kernel_rfl) Try.func4 (by kernel_rfl)
    (of_decide_eq_true (by kernel_rfl)) (by unfold Func.isWrapper; first | (rw [if_pos (by decide +kernel)]; kernel_rfl) | (rw [if_neg (by decide +kernel)]; exact ⟨rfl, rfl⟩))
    (fun os started H enc _ => lifted os started H enc)
end Go.Proofs.Ythjnebngdcdicaa.KvPlays
namespace Go.Proofs.Ythjnebngdcdicaa
theorem kvPlays_holds : Rows.KvPlaysSaid := KvPlays.over
#print axioms kvPlays_holds
end Go.Proofs.Ythjnebngdcdicaa
