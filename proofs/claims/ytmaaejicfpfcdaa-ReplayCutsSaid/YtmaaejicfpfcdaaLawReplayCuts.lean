/- 'ReplayCuts' answers true at every input, and leaves what it was given. No condition. -/
import Derived.Test.YtmaaejicfpfcdaaRpBatch
import Derived.Test.YtmaaejicfpfcdaaLaw
import Derived.Test.YtmaaejicfpfcdaaRows
import Derived.Laws.OwnMore
namespace Go.Proofs.Ytmaaejicfpfcdaa.ReplayCuts
open Go Go.RowKit Go.Mun Go.Proofs

theorem cutw_h {P : Program} {t e : TypeId} {z : Value} {size bytes : Nat} (hT : SliceTy P t e z size bytes) (A : Option Addr) (n c : Nat) {kh : IntKind} {hi' : Int} {hi : Nat} (hhi : hi' = hi) (h2 : hi ≤ c) :
    ∀ w, (Instr.slice t (.slice A n c) none (some (.int kh hi')) none).run P w = .ok (.slice A hi c) w := by
  subst hhi
  intro w
  rw [run_slice_h w t A n c hT.under kh hi (by omega) (by omega), hT.sizeOf_elem]
  have e : ∀ A : Option Addr, A.map (·.add 0) = A := fun A => by cases A <;> simp [Addr.add]
  simp [Result.andThen, sliced, e]
theorem slice_head {w : World} {A : Option Addr} {n c m : Nat} {LL : List (List Rec)} (h : SliceOf 1 (rSlice 3 rOp) w (.slice A n c) LL) (hm : m ≤ n) : SliceOf 1 (rSlice 3 rOp) w (.slice A m c) (LL.take m) := by
  obtain ⟨A', n', c', xs, e, h1, h2, h3, h4, h5, h6⟩ := h
  injection e with e1 e2 e3
  subst e1 e2 e3
  refine ⟨A, m, c, xs.take m, rfl, by rw [List.length_take]; omega, by rw [List.length_take]; omega, by omega, h4, h5.take m, fun i hi => ?_⟩
  rw [List.length_take] at hi
  have := h6 i (by omega)
  rw [List.getElem_take]
  have e : chunk (xs.take m) 1 i = chunk xs 1 i := by
    unfold chunk
    apply List.ext_getElem?
    intro j
    rw [List.getElem?_take, List.getElem?_take, List.getElem?_drop, List.getElem?_drop, List.getElem?_take]
    by_cases hj : j < 1
    · rw [if_pos hj, if_pos hj, if_pos (by omega)]
    · rw [if_neg hj, if_neg hj]
  rw [e]
  exact this
/-- where the batches end -/
def endOf (LL : List (List Rec)) (m : Nat) : Nat := (allBB (LL.take m)).length
def ends (LL : List (List Rec)) (k : Nat) : List Value := (List.range k).map fun j => .int .i64 (endOf LL (j + 1) : Nat)
theorem ends_length (LL : List (List Rec)) (k : Nat) : (ends LL k).length = k := by simp [ends]
theorem ends_more (LL : List (List Rec)) (k : Nat) : ends LL (k + 1) = ends LL k ++ [.int .i64 (endOf LL (k + 1) : Nat)] := by simp [ends, List.range_succ]
theorem ends_get (LL : List (List Rec)) {k j : Nat} (h : j < k) : (ends LL k)[j]? = some (.int .i64 (endOf LL (j + 1) : Nat)) := by simp [ends, h]
theorem take_more' {LL : List (List Rec)} {k : Nat} {l : List Rec} (h : LL[k]? = some l) : LL.take (k + 1) = LL.take k ++ [l] := by
  obtain ⟨hk, hx⟩ := List.getElem?_eq_some_iff.1 h
  rw [List.take_succ_eq_append_getElem hk, hx]
theorem all_more {LL : List (List Rec)} {k : Nat} {l : List Rec} (h : LL[k]? = some l) : allBB (LL.take (k + 1)) = allBB (LL.take k) ++ batchB l := by rw [take_more' h, allBB_append]; simp [allBB]
theorem allBB_bd {LL : List (List Rec)} (h : ∀ l ∈ LL, SmallL l) : (allBB LL).length ≤ 42013 * LL.length := by
  induction LL with
  | nil => exact Nat.zero_le _
  | cons l LL ih =>
    have e : allBB (l :: LL) = batchB l ++ allBB LL := rfl
    rw [e, List.length_append, List.length_cons]
    have h1 := batchB_bd (h l (by simp))
    have h2 := ih fun y hy => h y (by simp [hy])
    omega
theorem same_map {LL : List (List Rec)} (h : ∀ l ∈ LL, SmallL l) : SameLL (LL.map normL) LL := by
  refine ⟨by simp, fun k x y hx hy => ?_⟩
  rw [List.getElem?_map, hy] at hx
  injection hx with hx
  subst hx
  exact normL_same (h y (List.mem_of_getElem? hy)).2
/-- a segment that is cut off -/
theorem read_cut {LL : List (List Rec)} {m c : Nat} (hs : ∀ l ∈ LL, SmallL l) (hm : m ≤ LL.length) (h1 : endOf LL m ≤ c) (h2 : m < LL.length → c < endOf LL (m + 1)) (_hc : c ≤ (allBB LL).length) :
    batches ((allBB LL).take c) = ((LL.take m).map normL, endOf LL m) := by
  have e : allBB LL = allBB (LL.take m) ++ allBB (LL.drop m) := by rw [← allBB_append, List.take_append_drop]
  have e2 : (allBB LL).take c = allBB (LL.take m) ++ (allBB (LL.drop m)).take (c - endOf LL m) := by
    rw [e, List.take_append, List.take_of_length_le h1]
    rfl
  obtain ⟨g1, g2, g3⟩ := bat_all (b := (allBB LL).take c) (LL.take m) 0 [] _ (fun l hl => hs l (List.mem_of_mem_take hl)) (Nat.zero_le _) e2
  show bat _ 0 0 [] [] = _
  rw [g1, List.nil_append, Nat.zero_add] at *
  by_cases hlt : m < LL.length
  · have hx : LL[m]? = some LL[m] := List.getElem?_eq_getElem hlt
    have hd : LL.drop m = LL[m] :: LL.drop (m + 1) := List.drop_eq_getElem_cons hlt
    have hsm := hs LL[m] (List.getElem_mem hlt)
    have hl2 := h2 hlt
    unfold endOf at hl2 h1 ⊢
    rw [all_more hx, List.length_append] at hl2
    have hr : (allBB (LL.drop m)).take (c - (allBB (LL.take m)).length) = (batchB LL[m]).take (c - (allBB (LL.take m)).length) := by
      rw [hd]
      show (batchB LL[m] ++ allBB (LL.drop (m + 1))).take _ = _
      rw [List.take_append_of_le_length (by omega)]
    refine bat_torn_ops _ _ LL[m].length (by have := hsm.1; omega) LL[m] _ [] (c - (allBB (LL.take m)).length) hsm.2 g2 ?_ ?_
    · show c - _ < (batchB LL[m]).length
      omega
    · rw [g3]
      exact hr
  · have hd : LL.drop m = [] := List.drop_eq_nil_of_le (by omega)
    refine bat_none ?_
    rw [g3, hd]
    show (allBB []).take _ = []
    simp [allBB]
theorem own_cap {w : World} {base size n c : Nat} {e : TypeId} {A : Option Addr} {xs : List Value} (h : w.ownsRow base e size (.slice A n c) n xs) : n ≤ c := by
  rcases h.2 with ⟨e1, e2⟩ | ⟨g, cap, cur, e1, _, _, hc, _⟩
  · omega
  · injection e1 with e1 e2 e3; omega
theorem bytes_head {w : World} {A : Option Addr} {n c m : Nat} {b : List UInt8} (h : Bytes w (.slice A n c) b) (hm : m ≤ n) : Bytes w (.slice A m c) (b.take m) := by
  obtain ⟨A', n', c', e, h1, h2, h3, h4⟩ := h
  injection e with e1 e2 e3
  subst e1 e2 e3
  refine ⟨A, m, c, rfl, by rw [List.length_take]; omega, by omega, h3, ?_⟩
  have := h4.take m
  simpa [bv, List.map_take] using this
theorem intsTy : SliceTy Try.prog 50 3 (.int .i64 0) 1 8 := SliceTy.mk' Try.underlying50 (by kernel_rfl) rfl (by decide)
theorem tmod_nat {q N : Nat} : ((q : Int)).tmod ((N : Int) + 1) = ((q % (N + 1) : Nat) : Int) := by
  rw [Int.tmod_eq_emod_of_nonneg (by omega)]
  rfl

theorem walk_early (v : Value) (LL : List (List Rec)) (w : World) (h : SliceOf 1 (rSlice 3 rOp) w v LL) (q : Int) (_h1 : -9223372036854775808 ≤ q) (_h2 : q ≤ 9223372036854775807) (he : 12 < LL.length ∨ q < 0) :
    Calls Try.prog 11 #[v, .int .i64 q] w fun e w' => e = .returned (.bool true) ∧ Below w.heap.size w w' := by
  have CA := Lib.hid alive22
  obtain ⟨A, n, c, xs, rfl, g1, g2, g3, g4, g5, g6⟩ := h
  unfold maxLen at g4
  by_cases h1 : 12 < n
  · have d1 : decide ((12 : Int) < n) = true := decide_eq_true (by omega)
    clear he g1 g2 g5 g6
    go_enter Try.func11, Try.ntmps11
    go_wp2_with (first
      | (go_at_call 26; refine (CA.out _).mono ?_; rintro e w1 ⟨rfl, hb1⟩)
      | fail)
    go_ret
    exact ⟨rfl, hb1⟩
  · have d1 : decide ((12 : Int) < n) = false := decide_eq_false (by omega)
    have d2 : decide (q < 0) = true := decide_eq_true (by omega)
    clear he g1 g2 g5 g6
    go_enter Try.func11, Try.ntmps11
    go_wp2_with (first
      | (go_at_call 26; refine (CA.out _).mono ?_; rintro e w1 ⟨rfl, hb1⟩)
      | fail)
    go_ret
    exact ⟨rfl, hb1⟩

set_option maxRecDepth 100000 in
set_option maxHeartbeats 4000000 in
theorem walk (v : Value) (LL : List (List Rec)) (w : World) (h : SliceOf 1 (rSlice 3 rOp) w v LL) (q : Nat) (_hq : (q : Int) ≤ 9223372036854775807) (h12 : LL.length ≤ 12) :
    Calls Try.prog 11 #[v, .int .i64 (q : Nat)] w fun e w' => e = .returned (.bool true) ∧ Below w.heap.size w w' := by
  have CA := Lib.hid alive22
  have hT := bytesTyR
  have hTI := intsTy
  have hTU := outTy
  have HLL := Lib.hid h
  obtain ⟨A, n, c, xs, rfl, g1, g2, g3, g4, g5, g6⟩ := h
  unfold maxLen at g4
  have HX := Lib.hid (fun w' (hB : Below w.heap.size w w') k (hk : k < n) => out_at (g5.ext hB) g1 g2 g6 hk)
  have HL := Lib.hid g1
  rw [g1] at h12
  have HT := Lib.hid (show LL.take n = LL from List.take_of_length_le (by omega))
  have d1 : decide ((12 : Int) < n) = false := decide_eq_false (by omega)
  clear g1 g2 g5 g6
  go_enter Try.func11, Try.ntmps11
  go_wp2_with (first
    | (go_at_call 26; refine (CA.out _).mono ?_; rintro e w1 ⟨rfl, hb1⟩)
    | fail)
  go_loopw [6, 7, 8] (fun va ve i wr => ∃ k : Nat, k ≤ n ∧ i = .int .i64 k ∧ Below w.heap.size w wr ∧ wr.ownsRow w.heap.size 5 1 va (allBB (LL.take k)).length (bv (allBB (LL.take k))) ∧
      wr.ownsRow w.heap.size 3 1 ve k (ends LL k) ∧ Apart va ve ∧ ∀ l ∈ LL.take k, SmallL l) (fun _ _ i _ => n - (intOf i).toNat)
  case atStart => exact ⟨0, Nat.zero_le _, rfl, hb1, own_zero _ _, World.ownsRow_nil _ _ _ _, Apart.nil _, fun l hl => by simp at hl⟩
  case round =>
    obtain ⟨k, hk, rfl, hBr, hoa, hoe, hap, hsm⟩ := hrel
    have hbd : (allBB (LL.take k)).length ≤ 504156 := by have := allBB_bd hsm; rw [List.length_take] at this; omega
    have HSM := Lib.hid hsm
    have HAP := Lib.hid hap
    clear hsm hap
    by_cases hlt : k < n
    · obtain ⟨ad, vl, l, rfl, q0, hl, hsl⟩ := HX.out wr hBr k hlt
      have HSL := Lib.hid hsl
      have HAM := Lib.hid (all_more hl)
      have HEM := Lib.hid (ends_more LL k)
      have HTM := Lib.hid (take_more' hl)
      clear hl hsl
      by_cases hs : SmallL l
      · have hbl := batchB_bd hs
        have hen : endOf LL (k + 1) = (allBB (LL.take k)).length + (batchB l).length := by unfold endOf; rw [HAM.out, List.length_append]
        have HEN := Lib.hid hen
        clear hen
        go_upto_region 16 with (first
          | (go_at_call 30; refine (Big_no _ _ _ (HSL.out.ext rOp_stays hBr) hs).mono ?_; rintro e w2 ⟨rfl, rfl⟩)
          | (go_at_call 31; refine (RefBatch_ok _ l _ (HSL.out.ext rOp_stays hBr) hs).mono ?_; rintro e w3 ⟨v3, rfl, ho3, hb3⟩; have hB3 := below_step hBr hb3; have hoa3 := own_ext hoa hb3; have hoe3 := own_ext hoe hb3)
          | (at_builtin; refine wpList_append_bytes rfl (.tmp 51) (.tmp 52) _ rfl w.heap.size hT rfl hoa3 rfl (Bytes.own ho3) (by omega) hB3.size ?_; intro va4 w4 hoa4 hg4 hat4; have hB4 := below_own hB3 hoa3 (Nat.le_refl _) hg4 hB3.size; have hoe4 := far_row hoe3 hg4 HAP.out; have hap4 := apart_new hoe3 HAP.out hat4)
          | fail)
        rw [← HEN.out] at hoa4
        obtain ⟨A4, c4, e4⟩ := own_sl hoa4
        subst e4
        go_wp2_with (first
          | (refine wpList_row_val rfl (.tmp 56) rfl hTI (by decide) rfl rfl ?_; intro w5 hx5 hb5 hl5; have hB5 := below_step hB4 hb5; have hoa5 := own_ext hoa4 hb5; have hoe5 := own_ext hoe4 hb5)
          | (at_builtin; refine wpList_append_rd _ rfl (.tmp 54) (.tmp 57) _ rfl w.heap.size _ _ 1 8 hTI _ _ _ rfl hoe5 (some ⟨w4.heap.size, 0, none⟩) 1 1 [.int .i64 (endOf LL (k + 1) : Nat)] rfl rfl hx5.rd (by intro u hu; rw [List.mem_singleton.1 hu]; rfl) (by unfold maxLen; omega) (by omega) hB5.size ?_; intro ve6 w6 hoe6 hg6 hat6; have hB6 := below_own hB5 hoe5 (Nat.le_refl _) hg6 hB5.size; have hoa6 := far_row hoa5 hg6 hap4.symm; have hap6 := (apart_new hoa5 hap4.symm hat6).symm)
          | fail)
        go_roundw
        case rel =>
          refine ⟨k + 1, by omega, by go_num, hB6, ?_, by rw [HEM.out]; exact hoe6, hap6, ?_⟩
          · rw [← HAM.out] at hoa6
            exact hoa6
          · rw [HTM.out]
            intro x hx
            rcases List.mem_append.1 hx with h1 | h1
            · exact HSM.out x h1
            · rw [List.mem_singleton.1 h1]; exact hs
        case measure => simp [intOf]; omega
      · go_wp2_with (first
          | (go_at_call 30; refine (Big_yes _ _ _ (HSL.out.ext rOp_stays hBr) hs).mono ?_; rintro e w2 ⟨rfl, rfl⟩)
          | fail)
        go_ret
        exact ⟨rfl, hBr⟩
    · obtain rfl : k = n := by omega
      rw [HT.out] at hoa hbd
      have hsm := HSM.out
      rw [HT.out] at hsm
      obtain ⟨N, hN⟩ : ∃ N, N = (allBB LL).length := ⟨_, rfl⟩
      obtain ⟨cc, hcc⟩ : ∃ cc, cc = q % (N + 1) := ⟨_, rfl⟩
      have hcN : cc ≤ N := by have := Nat.mod_lt q (show 0 < N + 1 by omega); omega
      have E1 : ((q : Int)).tmod ((N : Int) + 1) = (cc : Nat) := by rw [hcc]; exact tmod_nat
      rw [← hN] at hoa hbd
      have HN := Lib.hid hN
      have HSA := Lib.hid hsm
      clear hcc hN hsm
      obtain ⟨AA, cA, eA⟩ := own_sl hoa
      subst eA
      obtain ⟨AE, cE, eE⟩ := own_sl hoe
      subst eE
      go_wp2
      go_loopw [13] (fun i w2 => ∃ m : Nat, m ≤ k ∧ i = .int .i64 m ∧ w2 = wr ∧ endOf LL m ≤ cc) (fun i _ => k - (intOf i).toNat)
      case atStart => exact ⟨0, Nat.zero_le _, rfl, rfl, Nat.zero_le _⟩
      case round =>
        obtain ⟨m, hm, rfl, rfl, hle⟩ := hrel
        by_cases hmk : m < k ∧ endOf LL (m + 1) ≤ cc
        · obtain ⟨hmk, hec⟩ := hmk
          obtain ⟨hE, rfl⟩ := own_at hoe (by omega)
          have hc1 := hoe.cellAt m (by omega)
          rw [ends_get LL hmk] at hc1
          have f2 : decide ((endOf LL (m + 1) : Int) ≤ cc) = true := decide_eq_true (by omega)
          have b1 : (0 : Int) ≤ m ∧ (m : Int) < k := by omega
          go_wp2
          go_roundw
          case rel => first | exact ⟨m + 1, by omega, by go_num, rfl, hec⟩ | exact ⟨m + 1, by omega, by go_num, trivial, hec⟩ | ((repeat apply Exists.intro); exact ⟨⟨m + 1, by omega, by go_num, rfl, hec⟩, rfl⟩)
          case measure => simp [intOf]; omega
        · have HRD := Lib.hid (show batches ((allBB LL).take cc) = ((LL.take m).map normL, endOf LL m) from read_cut HSA.out (by rw [HL.out]; exact hm) hle (fun h => by rw [HL.out] at h; omega) (by rw [← HN.out]; exact hcN))
          have HSL := Lib.hid (fun w' (hB : Below w.heap.size w w') => (slice_head HLL.out hm).ext (rSlice_stays rOp_stays) hB)
          have HSM2 := Lib.hid (same_map (LL := LL.take m) (fun l hl => HSA.out l (List.mem_of_mem_take hl)))
          have hrun1 := cutw_h hT AA N cA (kh := .i64) (hi' := (cc : Nat)) (hi := cc) rfl (by have := own_cap hoa; omega)
          have hrun2 := cutw_h hTU A k c (kh := .i64) (hi' := (m : Nat)) (hi := m) rfl (by omega)
          have HBY := Lib.hid (bytes_head (Bytes.own hoa) hcN)
          have hln : ((allBB LL).take cc).length ≤ 800000 := by rw [List.length_take]; omega
          by_cases hmk2 : m < k
          · obtain ⟨hE, rfl⟩ := own_at hoe (by omega)
            have hc1 := hoe.cellAt m (by omega)
            rw [ends_get LL hmk2] at hc1
            have f1 : decide ((m : Int) < k) = true := decide_eq_true (by omega)
            have f2 : decide ((endOf LL (m + 1) : Int) ≤ cc) = false := decide_eq_false (by omega)
            have b1 : (0 : Int) ≤ m ∧ (m : Int) < k := by omega
            by_cases h0 : m = 0
            · subst h0
              have HZ : endOf LL 0 = 0 := rfl
              rw [HZ] at HRD
              simp only [Nat.zero_add] at hc1 f2
              have f3 : cc < endOf LL 1 := by have := of_decide_eq_false f2; omega
              have f4 : decide (endOf LL 1 ≤ cc) = false := decide_eq_false (by omega)
              clear HZ
              go_wp2_with (first
                | (go_at_call 27; refine (Read_any _ _ _ HBY.out hln).mono ?_; rintro e w8 ⟨v8, rfl, hs8, hb8⟩; rw [HRD.out] at hs8 ⊢; have hB8 := below_step hBr hb8; have hoe8 := own_ext hoe hb8)
                | (go_at_call 29; refine (Batches_true _ _ _ _ _ hs8 (HSL.out _ hB8) HSM2.out).mono ?_; rintro e w10 ⟨rfl, hb10⟩; have hB10 := below_step hB8 hb10)
                | fail)
              go_ret
              exact ⟨rfl, hB10⟩
            · obtain ⟨p, rfl⟩ : ∃ p, m = p + 1 := ⟨m - 1, by omega⟩
              have HEG := Lib.hid (ends_get LL (show p < k by omega))
              have b2 : (0 : Int) ≤ p ∧ (p : Int) < k := by omega
              have g1 : decide ((0 : Int) < ((p + 1 : Nat) : Int)) = true := decide_eq_true (by omega)
              have g2 : decide ((((p + 1 : Nat)) : Int) = 0) = false := decide_eq_false (by omega)
              have g3 : (((p + 1 : Nat)) : Int) - 1 = p := by omega
              go_wp2_with (first
                | (go_at_call 27; refine (Read_any _ _ _ HBY.out hln).mono ?_; rintro e w8 ⟨v8, rfl, hs8, hb8⟩; rw [HRD.out] at hs8 ⊢; have hB8 := below_step hBr hb8; have hoe8 := own_ext hoe hb8)
                | (go_at_call 29; refine (Batches_true _ _ _ _ _ hs8 (HSL.out _ hB8) HSM2.out).mono ?_; rintro e w10 ⟨rfl, hb10⟩; have hB10 := below_step hB8 hb10; have hc10 := (own_ext hoe8 hb10).cellAt p (by omega); rw [HEG.out] at hc10)
                | fail)
              go_ret
              exact ⟨rfl, hB10⟩
          · have f1 : decide ((m : Int) < k) = false := decide_eq_false (by omega)
            by_cases h0 : m = 0
            · subst h0
              have HZ : endOf LL 0 = 0 := rfl
              rw [HZ] at HRD
              clear HZ
              go_wp2_with (first
                | (go_at_call 27; refine (Read_any _ _ _ HBY.out hln).mono ?_; rintro e w8 ⟨v8, rfl, hs8, hb8⟩; rw [HRD.out] at hs8 ⊢; have hB8 := below_step hBr hb8; have hoe8 := own_ext hoe hb8)
                | (go_at_call 29; refine (Batches_true _ _ _ _ _ hs8 (HSL.out _ hB8) HSM2.out).mono ?_; rintro e w10 ⟨rfl, hb10⟩; have hB10 := below_step hB8 hb10)
                | fail)
              go_ret
              exact ⟨rfl, hB10⟩
            · obtain ⟨p, rfl⟩ : ∃ p, m = p + 1 := ⟨m - 1, by omega⟩
              obtain ⟨hE, rfl⟩ := own_at hoe (by omega)
              have HEG := Lib.hid (ends_get LL (show p < k by omega))
              have b2 : (0 : Int) ≤ p ∧ (p : Int) < k := by omega
              have g1 : decide ((0 : Int) < ((p + 1 : Nat) : Int)) = true := decide_eq_true (by omega)
              have g2 : decide ((((p + 1 : Nat)) : Int) = 0) = false := decide_eq_false (by omega)
              have g3 : (((p + 1 : Nat)) : Int) - 1 = p := by omega
              go_wp2_with (first
                | (go_at_call 27; refine (Read_any _ _ _ HBY.out hln).mono ?_; rintro e w8 ⟨v8, rfl, hs8, hb8⟩; rw [HRD.out] at hs8 ⊢; have hB8 := below_step hBr hb8; have hoe8 := own_ext hoe hb8)
                | (go_at_call 29; refine (Batches_true _ _ _ _ _ hs8 (HSL.out _ hB8) HSM2.out).mono ?_; rintro e w10 ⟨rfl, hb10⟩; have hB10 := below_step hB8 hb10; have hc10 := (own_ext hoe8 hb10).cellAt p (by omega); rw [HEG.out] at hc10)
                | fail)
              go_ret
              exact ⟨rfl, hB10⟩
open Go.ChangeShapes Go.WideShapes Go.ChangeAt

set_option maxRecDepth 100000 in
theorem lifted (os : Os) (started : os.Started) (H : Type) (enc : TypeId × Value → H) :
    ReturnsInHanded {} Try.checked os 11 .any (Rows.replayCutsSpec.pre6 enc Try.prog Try.f11 Rows.replayCutsRow.domain false) (Rows.replayCutsSpec.post enc Try.prog Try.f11 false true false false) := by
  refine law_lift (C := Try.checked) (ts := [53, 3]) (tb := 4) (by kernel_rfl) started (by kernel_rfl) Try.func11
    (ChangeSpec.witness6 (enc := enc) (C := Try.checked) false ⟨#[], #[.slice none 0 0, .int .i64 0], []⟩ 8 (by kernel_rfl) (by kernel_rfl) (by kernel_rfl) (by kernel_rfl))
    (by kernel_rfl) (by kernel_rfl) (by kernel_rfl) (by kernel_rfl) Try.underlying4 rfl (fun ds h => by match ds, h with | [_, _], _ => rfl) ?_
  intro W vs hl h
  match vs, hl with
  | [v0, v1], _ =>
    have hl := h 0 _ v0 rfl rfl
    obtain ⟨q, rfl, hq⟩ := arg_int Try.underlying3 (h 1 _ v1 rfl rfl)
    obtain ⟨LL, hl'⟩ := arg_slice Try.underlying53 (by kernel_rfl) (opens_ops enc) hl
    have hqb := bounds_i64 hq
    by_cases he : 12 < LL.length ∨ q < 0
    · exact walk_early _ LL W hl' q hqb.1 hqb.2 he
    · obtain ⟨y, rfl⟩ : ∃ y : Nat, q = y := ⟨q.toNat, by omega⟩
      exact walk _ LL W hl' y hqb.2 (by omega)

theorem over : Rows.replayCutsRow.holds Try.pinned (OpenSpec.ofChange Rows.replayCutsSpec) :=
  OpenClaim.holds_of_wide 11 Try.f11 rfl rfl rfl rfl rfl rfl rfl ⟨rfl, rfl, rfl, rfl, rfl⟩ rfl rfl rfl rfl rfl (by kernel_rfl) Try.func11 (by kernel_rfl)
    (of_decide_eq_true (by kernel_rfl)) (by unfold Func.isWrapper; first | (rw [if_pos (by decide +kernel)]; kernel_rfl) | (rw [if_neg (by decide +kernel)]; exact ⟨rfl, rfl⟩))
    (fun os started H enc _ => lifted os started H enc)
end Go.Proofs.Ytmaaejicfpfcdaa.ReplayCuts
namespace Go.Proofs.Ytmaaejicfpfcdaa
theorem replayCuts_holds : Rows.ReplayCutsSaid := ReplayCuts.over
#print axioms replayCuts_holds
end Go.Proofs.Ytmaaejicfpfcdaa
