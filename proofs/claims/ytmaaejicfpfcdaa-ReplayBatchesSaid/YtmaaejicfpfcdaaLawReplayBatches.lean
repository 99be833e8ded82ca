/- 'ReplayBatches' answers true at every input, and leaves what it was given. No condition. -/
import Derived.Test.YtmaaejicfpfcdaaNetBatch
import Derived.Test.YtmaaejicfpfcdaaNetPairs
import Derived.Test.YtmaaejicfpfcdaaLaw
import Derived.Test.YtmaaejicfpfcdaaRows
namespace Go.Proofs.Ytmaaejicfpfcdaa.ReplayBatches
open Go Go.RowKit Go.Mun Go.Proofs

set_option maxRecDepth 100000 in
theorem walk_early (v : Value) (LL : List (List Rec)) (w : World) (h : SliceOf 1 (rSlice 3 rOp) w v LL) (he : 20 < LL.length) :
    Calls Try.prog 15 #[v] w fun e w' => e = .returned (.bool true) ∧ Below w.heap.size w w' := by
  have CA := Lib.hid alive22
  obtain ⟨A, n, c, xs, rfl, g1, g2, g3, g4, g5, g6⟩ := h
  unfold maxLen at g4
  have d1 : decide ((20 : Int) < n) = true := decide_eq_true (by omega)
  clear he g1 g2 g5 g6
  go_enter Try.func15, Try.ntmps15
  go_wp2_with (first
    | (go_at_call 26; refine (CA.out _).mono ?_; rintro e w1 ⟨rfl, hb1⟩)
    | fail)
  go_ret
  exact ⟨rfl, hb1⟩
set_option maxRecDepth 100000 in
set_option maxHeartbeats 8000000 in
theorem walk (v : Value) (LL : List (List Rec)) (w : World) (h : SliceOf 1 (rSlice 3 rOp) w v LL) (h20 : LL.length ≤ 20) :
    Calls Try.prog 15 #[v] w fun e w' => e = .returned (.bool true) ∧ Below w.heap.size w w' := by
  have CA := Lib.hid alive22
  have hT := bytesTyR
  have HLL := Lib.hid h
  obtain ⟨A, n, c, xs, rfl, g1, g2, g3, g4, g5, g6⟩ := h
  unfold maxLen at g4
  have HX := Lib.hid (fun w' (hB : Below w.heap.size w w') k (hk : k < n) => out_at (g5.ext hB) g1 g2 g6 hk)
  have HL := Lib.hid g1
  rw [g1] at h20
  have HT := Lib.hid (show LL.take n = LL from List.take_of_length_le (by omega))
  have d1 : decide ((20 : Int) < n) = false := decide_eq_false (by omega)
  clear g1 g2 g5 g6
  go_enter Try.func15, Try.ntmps15
  go_wp2_with (first
    | (go_at_call 26; refine (CA.out _).mono ?_; rintro e w1 ⟨rfl, hb1⟩)
    | fail)
  go_loopw [4, 5] (fun va i wr => ∃ k : Nat, k ≤ n ∧ i = .int .i64 k ∧ Below w.heap.size w wr ∧ wr.ownsRow w.heap.size 5 1 va (allBB (LL.take k)).length (bv (allBB (LL.take k))) ∧ ∀ l ∈ LL.take k, SmallL l) (fun _ i _ => n - (RowKit.intOf i).toNat)
  case atStart => exact ⟨0, Nat.zero_le _, rfl, hb1, own_zero _ _, fun l hl => by simp at hl⟩
  case round =>
    obtain ⟨k, hk, rfl, hBr, hoa, hsm⟩ := hrel
    have hbd : (allBB (LL.take k)).length ≤ 840260 := by have := allBB_bd hsm; rw [List.length_take] at this; omega
    have HSM := Lib.hid hsm
    clear hsm
    by_cases hlt : k < n
    · have f2 : decide ((k : Int) < n) = true := decide_eq_true (by omega)
      have b3 : (0 : Int) ≤ k := by omega
      have b4 : (k : Int) < n := by omega
      obtain ⟨ad, vl, l, rfl, q0, hl, hsl⟩ := HX.out w (Below.refl _ _) k hlt
      have HQ := Lib.hid (fun (w' : World) (hb : Below w.heap.size w w') => cell_ext hb q0)
      have HSL := Lib.hid hsl
      have HAM := Lib.hid (all_more hl)
      have HTM := Lib.hid (take_more' hl)
      have qr := HQ.out wr hBr
      clear hl hsl q0
      by_cases hs : SmallL l
      · have hbl := batchB_bd hs
        have HSS := Lib.hid hs
        go_upto_region 12 with (first
          | (go_at_call 30; refine (Big_no _ _ _ (HSL.out.ext rOp_stays hBr) hs).mono ?_; rintro e w2 ⟨rfl, rfl⟩)
          | (go_at_call 36; refine (Batch_ok _ l _ (HSL.out.ext rOp_stays hBr) HSS.out).mono ?_; rintro e w3 ⟨v3, rfl, ho3, hb3⟩; have hB3 := below_step hBr hb3; have hoa3 := own_ext hoa hb3; have qr3 := HQ.out _ hB3)
          | fail)
        clear hb3
        go_upto_region 13 with (first
          | (go_at_call 31; refine (RefBatch_ok _ l _ (HSL.out.ext rOp_stays hB3) HSS.out).mono ?_; rintro e w4 ⟨v4, rfl, ho4, hb4⟩; have hB4 := below_step hB3 hb4; have hoa4 := own_ext hoa3 hb4; have ho34 := own_ext ho3 hb4; have qr4 := HQ.out _ hB4)
          | fail)
        clear ho3 hoa3 qr3 hb4 hs
        have hq1 := run_str (P := Try.prog) (src := 24) (dst := 9) (Bytes.own ho34) Try.underlying24 Try.underlying5 Try.underlying9
        have hq2 := run_str (P := Try.prog) (src := 24) (dst := 9) (Bytes.own ho4) Try.underlying24 Try.underlying5 Try.underlying9
        have hne := str_nes (batchB l)
        go_upto_region 15 with (first
          | (go_at_call 37; refine (num22 _ _).mono ?_; rintro e w5 ⟨rfl, rfl⟩)
          | fail)
        clear hq1 hq2 hne
        go_upto_region 16 with (first
          | (go_at_call 33; refine (Net_any _ l _ (HSL.out.ext rOp_stays hB4) (by have := HSS.out.1; omega) HSS.out.vals).mono ?_; rintro e w6 ⟨v6, rfl, hs6, hb6⟩; have hB6 := below_step hB4 hb6; have hoa6 := own_ext hoa4 hb6; have ho36 := own_ext ho34 hb6; have qr6 := HQ.out _ hB6)
          | fail)
        clear hb6 hoa4 ho34 qr4
        go_upto_region 18 with (first
          | (go_at_call 39; refine (RefNet_any _ l _ (HSL.out.ext rOp_stays hB6) (by have := HSS.out.1; omega)).mono ?_; rintro e w7 ⟨v7, rfl, hs7, hb7⟩; have hB7 := below_step hB6 hb7; have hoa7 := own_ext hoa6 hb7; have ho37 := own_ext ho36 hb7; have hs67 := hs6.ext rOp_stays hb7)
          | (go_at_call 38; refine (SameOps_true _ _ _ _ _ hs67 hs7 (net_same l)).mono ?_; rintro e w8 ⟨rfl, hb8⟩; have hB8 := below_step hB7 hb8; have hoa8 := own_ext hoa7 hb8; have ho38 := own_ext ho37 hb8)
          | fail)
        clear hs6 hs67 hs7 hb7 hoa6 ho36 hoa7 ho37
        go_wp2_with (first
          | (at_builtin; refine wpList_append_bytes rfl (.tmp 75) (.tmp 76) _ rfl w.heap.size hT rfl hoa8 rfl (Bytes.own ho38) (by omega) hB8.size ?_; intro va9 w9 hoa9 hg9 hat9; have hB9 := below_own hB8 hoa8 (Nat.le_refl _) hg9 hB8.size)
          | fail)
        go_roundw
        case rel =>
          refine ⟨k + 1, by omega, by go_num, hB9, row_b hoa9 HAM.out, ?_⟩
          rw [HTM.out]
          intro x hx
          rcases List.mem_append.1 hx with h1 | h1
          · exact HSM.out x h1
          · rw [List.mem_singleton.1 h1]; exact HSS.out
        case measure => simp [RowKit.intOf]; omega
      · go_wp2_with (first
          | (go_at_call 30; refine (Big_yes _ _ _ (HSL.out.ext rOp_stays hBr) hs).mono ?_; rintro e w2 ⟨rfl, rfl⟩)
          | fail)
        go_ret
        exact ⟨rfl, hBr⟩
    · obtain rfl : k = n := by omega
      have f2 : decide ((k : Int) < k) = false := decide_eq_false (by omega)
      rw [HT.out] at hoa hbd
      have hsm := HSM.out
      rw [HT.out] at hsm
      have HRD := Lib.hid (read_whole hsm)
      have HSA := Lib.hid (same_map hsm)
      have HLN := Lib.hid (live_norm hsm)
      have HNF := Lib.hid (norm_fit hsm)
      have HFL := Lib.hid (small_fit hsm)
      have h20' : LL.length ≤ 20 := by rw [HL.out]; exact h20
      have H20 := Lib.hid h20'
      have hln : (allBB LL).length ≤ 860000 := by omega
      clear hsm h20'
      obtain ⟨N, hN⟩ : ∃ N, N = (allBB LL).length := ⟨_, rfl⟩
      have hRD := HRD.out
      rw [← hN] at hRD hoa hln
      obtain ⟨AA, cA, eA⟩ := own_sl hoa
      subst eA
      replace HRD := Lib.hid hRD
      have hlN := Lib.hid (show (allBB LL).length ≤ 890000 by omega)
      clear hRD hN hbd
      obtain ⟨bs, hbs⟩ : ∃ bs, bs = allBB LL := ⟨_, rfl⟩
      rw [← hbs] at HRD hoa hlN
      clear hbs
      go_upto_region 20 with (first
        | (go_at_call 27; refine (Read_big _ bs _ (Bytes.own hoa) hlN.out).mono ?_; rintro e w8 ⟨v8, rfl, hs8, hb8⟩; rw [HRD.out] at hs8 ⊢; have hB8 := below_step hBr hb8)
        | fail)
      go_wp2_with (first
        | (go_at_call 29; refine (Batches_true _ _ _ _ _ hs8 (HLL.out.ext (rSlice_stays rOp_stays) hB8) HSA.out).mono ?_; rintro e w10 ⟨rfl, hb10⟩; have hB10 := below_step hB8 hb10; have hs10 := hs8.ext (rSlice_stays rOp_stays) hb10)
        | (go_at_call 32; refine (Live_any _ (LL.map normL) _ hs10 (by rw [List.length_map]; have := H20.out; omega) (fun x hx => (HNF.out x hx).1) (fun x hx => (HNF.out x hx).2)).mono ?_; rintro e w11 ⟨v11, rfl, hs11, hb11⟩; have hB11 := below_step hB10 hb11; rw [HLN.out] at hs11)
        | (go_at_call 35; refine (DLive_any _ LL _ (HLL.out.ext (rSlice_stays rOp_stays) hB11) (by have := H20.out; omega) HFL.out).mono ?_; rintro e w12 ⟨v12, rfl, hs12, hb12⟩; have hB12 := below_step hB11 hb12; have hs112 := hs11.ext rPair_stays hb12)
        | (go_at_call 34; refine (SamePairs_true _ _ _ _ hs112 hs12).mono ?_; rintro e w13 ⟨rfl, hb13⟩; have hB13 := below_step hB12 hb13)
        | fail)
      go_ret
      exact ⟨rfl, hB13⟩

open Go.ChangeShapes Go.WideShapes Go.ChangeAt

set_option maxRecDepth 100000 in
theorem lifted (os : Os) (started : os.Started) (H : Type) (enc : TypeId × Value → H) :
    ReturnsInHanded {} Try.checked os 15 .any (Rows.replayBatchesSpec.pre6 enc Try.prog Try.f15 Rows.replayBatchesRow.domain false) (Rows.replayBatchesSpec.post enc Try.prog Try.f15 false true false false) := by
  refine law_lift (C := Try.checked) (ts := [53]) (tb := 4) (by kernel_rfl) started (by kernel_rfl) Try.func15
    (ChangeSpec.witness6 (enc := enc) (C := Try.checked) false ⟨#[], #[.slice none 0 0], []⟩ 8 (by kernel_rfl) (by kernel_rfl) (by kernel_rfl) (by kernel_rfl))
    (by kernel_rfl) (by kernel_rfl) (by kernel_rfl) (by kernel_rfl) Try.underlying4 rfl (fun ds h => by match ds, h with | [_], _ => rfl) ?_
  intro W vs hl h
  match vs, hl with
  | [v0], _ =>
    have hl := h 0 _ v0 rfl rfl
    obtain ⟨LL, hl'⟩ := arg_slice Try.underlying53 (by kernel_rfl) (opens_ops enc) hl
    by_cases he : 20 < LL.length
    · exact walk_early _ LL W hl' he
    · exact walk _ LL W hl' (by omega)

theorem over : Rows.replayBatchesRow.holds Try.pinned (OpenSpec.ofChange Rows.replayBatchesSpec) :=
  OpenClaim.holds_of_wide 15 Try.f15 rfl rfl rfl rfl rfl rfl rfl ⟨rfl, rfl, rfl, rfl, rfl⟩ rfl rfl rfl rfl rfl (by kernel_rfl) Try.func15 (by kernel_rfl)
    (of_decide_eq_true (by kernel_rfl)) (by unfold Func.isWrapper; first | (rw [if_pos (by decide +kernel)]; kernel_rfl) | (rw [if_neg (by decide +kernel)]; exact ⟨rfl, rfl⟩))
    (fun os started H enc _ => lifted os started H enc)
end Go.Proofs.Ytmaaejicfpfcdaa.ReplayBatches
namespace Go.Proofs.Ytmaaejicfpfcdaa
theorem replayBatches_holds : Rows.ReplayBatchesSaid := ReplayBatches.over
#print axioms replayBatches_holds
end Go.Proofs.Ytmaaejicfpfcdaa
