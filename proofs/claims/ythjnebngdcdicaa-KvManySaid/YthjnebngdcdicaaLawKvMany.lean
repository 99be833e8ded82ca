/- 'KvMany' answers true at every input, and leaves what it was given. No condition. -/
import Derived.Test.YthjnebngdcdicaaKvOneKey
import Derived.Test.YthjnebngdcdicaaRows
namespace Go.Proofs.Ythjnebngdcdicaa.KvMany
open Go Go.RowKit Go.Mun Go.Proofs Go.Maps

set_option maxRecDepth 100000 in
theorem early1 (n s : Int) (w : World) (h1 : n < 1) :
    Calls Try.prog 5 #[.int .i64 n, .int .i64 s] w fun e w' => e = .returned (.bool true) ∧ Below w.heap.size w w' := by
  have CA := Lib.hid alive23_any
  have e1 : decide (n < 1) = true := decide_eq_true (by omega)
  go_enter Try.func5, Try.ntmps5
  go_wp2_with (first
    | (go_at_call 9; (refine (CA.out _).mono ?_); rintro e wa ⟨rfl, hba⟩)
    | fail)
  go_ret
  exact ⟨rfl, hba⟩
set_option maxRecDepth 100000 in
theorem early2 (n s : Int) (w : World) (h2 : 100 < n) :
    Calls Try.prog 5 #[.int .i64 n, .int .i64 s] w fun e w' => e = .returned (.bool true) ∧ Below w.heap.size w w' := by
  have CA := Lib.hid alive23_any
  have e1 : decide (n < 1) = false := decide_eq_false (by omega)
  have e2 : decide (100 < n) = true := decide_eq_true (by omega)
  go_enter Try.func5, Try.ntmps5
  go_wp2_with (first
    | (go_at_call 9; (refine (CA.out _).mono ?_); rintro e wa ⟨rfl, hba⟩)
    | fail)
  go_ret
  exact ⟨rfl, hba⟩
set_option maxRecDepth 100000 in
theorem early3 (n s : Int) (w : World) (h1 : 1 ≤ n) (h2 : n ≤ 100) (h3 : s < 0) :
    Calls Try.prog 5 #[.int .i64 n, .int .i64 s] w fun e w' => e = .returned (.bool true) ∧ Below w.heap.size w w' := by
  have CA := Lib.hid alive23_any
  have e1 : decide (n < 1) = false := decide_eq_false (by omega)
  have e2 : decide (100 < n) = false := decide_eq_false (by omega)
  have e3 : decide (s < 0) = true := decide_eq_true (by omega)
  go_enter Try.func5, Try.ntmps5
  go_wp2_with (first
    | (go_at_call 9; (refine (CA.out _).mono ?_); rintro e wa ⟨rfl, hba⟩)
    | fail)
  go_ret
  exact ⟨rfl, hba⟩
set_option maxRecDepth 100000 in
theorem early4 (n s : Int) (w : World) (h1 : 1 ≤ n) (h2 : n ≤ 100) (h4 : 500 < s) :
    Calls Try.prog 5 #[.int .i64 n, .int .i64 s] w fun e w' => e = .returned (.bool true) ∧ Below w.heap.size w w' := by
  have CA := Lib.hid alive23_any
  have e1 : decide (n < 1) = false := decide_eq_false (by omega)
  have e2 : decide (100 < n) = false := decide_eq_false (by omega)
  have e3 : decide (s < 0) = false := decide_eq_false (by omega)
  have e4 : decide (500 < s) = true := decide_eq_true (by omega)
  go_enter Try.func5, Try.ntmps5
  go_wp2_with (first
    | (go_at_call 9; (refine (CA.out _).mono ?_); rintro e wa ⟨rfl, hba⟩)
    | fail)
  go_ret
  exact ⟨rfl, hba⟩
theorem u8_mod (k : Nat) : (((UInt8.ofNat k).toNat : Nat) : Int) = (k : Int) % 256 := by
  simp
set_option maxRecDepth 100000 in
set_option maxHeartbeats 16000000 in
theorem main (nn sz : Nat) (w : World) (h1 : 1 ≤ nn) (h2' : nn ≤ 100) (h4 : sz ≤ 500) :
    Calls Try.prog 5 #[.int .i64 (nn : Int), .int .i64 (sz : Int)] w fun e w' => e = .returned (.bool true) ∧ Below w.heap.size w w' := by
  have CA := Lib.hid alive23_any
  have NU := Lib.hid num_any
  have hbT := bytesTyC
  have hTO := opsTy
  have e1 : decide ((nn : Int) < 1) = false := decide_eq_false (by omega)
  have e2 : decide ((100 : Int) < nn) = false := decide_eq_false (by omega)
  have e3 : decide ((sz : Int) < 0) = false := decide_eq_false (by omega)
  have e4 : decide ((500 : Int) < sz) = false := decide_eq_false (by omega)
  go_enter Try.func5, Try.ntmps5
  go_wp2_with (first
    | (go_at_call 9; (refine (CA.out _).mono ?_); rintro e wa ⟨rfl, hba⟩; have N0 := Lib.hid (New_up (w0 := w) (w := wa) (o := fun _ => none) 0 (fun _ _ => rfl) hba (fun _ _ => rfl)))
    | (go_at_call 10; (refine N0.out.mono ?_); rintro e w1 ⟨p, o1, rfl, h1, T1⟩)
    | (go_at_call 11; (refine (One_open h1 sz).mono ?_); rintro e w2 ⟨q, rfl, h2⟩)
    | fail)
  go_loopw [9] (fun iv wr => ∃ (i : Nat) (S : PLB), i ≤ nn ∧ iv = .int .i64 (i : Nat) ∧ OneKey i sz S ∧ OneSt p q i sz S w wr) (fun iv _ => nn - (RowKit.intOf iv).toNat)
  case atStart => exact ⟨0, [], Nat.zero_le _, rfl, oneKey_zero sz, h2⟩
  case round =>
    obtain ⟨i, S, hi, rfl, hk, hs⟩ := hrel
    have HK := Lib.hid hk
    have HS := Lib.hid hs
    clear hk hs
    by_cases hlt : i < nn
    · have f0 : decide ((i : Int) < (nn : Int)) = true := decide_eq_true (by omega)
      go_wp2_with (first
        | ((with_reducible refine gd_make ?_); refine wpList_make_bytes rfl (.tmp 49) (.tmp 49) _ rfl wr.heap.size hbT (n := sz) (by rfl) (by rfl) (by omega) (Nat.le_refl _) ?_; intro vb wb hob hbb)
        | fail)
      obtain ⟨Ab, cb, rfl⟩ := row_slC hob
      go_loopw [11] (fun jv wq => ∃ (j : Nat) (l : List UInt8), j ≤ sz ∧ jv = .int .i64 (j : Nat) ∧ wq.ownsRow wr.heap.size 5 1 (.slice Ab sz cb) sz (bv l) ∧ (0 < j → l[0]? = some (UInt8.ofNat i)) ∧ Below wr.heap.size wr wq) (fun jv _ => sz - (RowKit.intOf jv).toNat)
      case atStart => exact ⟨0, _, Nat.zero_le _, rfl, hob, fun h => absurd h (Nat.lt_irrefl _), hbb⟩
      case round =>
        obtain ⟨j, l, hj, rfl, ho, h0, hb⟩ := hrel
        have hll : l.length = sz := by have := ho.1; rw [bv_length] at this; omega
        by_cases hjz : j < sz
        · have f2 : decide ((j : Int) < (sz : Int)) = true := decide_eq_true (by omega)
          have i4 := Int.natCast_nonneg j
          have i5 : (j : Int) < (sz : Int) := by omega
          obtain ⟨g, cur, eA, hbg, hxg, hjc, hset⟩ := own_byte ho hjz
          subst eA
          have HSET := Lib.hid hset
          have HBB := Lib.hid hb
          have HBG := Lib.hid hbg
          have H0 := Lib.hid (show 0 < j + 1 → (l.set j (UInt8.ofNat (i + j)))[0]? = some (UInt8.ofNat i) from fun _ => by
            by_cases hj0 : j = 0
            · subst hj0
              rw [List.getElem?_set_self (by omega), Nat.add_zero]
            · rw [List.getElem?_set_ne hj0]
              exact h0 (by omega))
          clear hset hb hbg ho hbb hob h0 hll
          go_wp2_with (first
            | ((with_reducible refine gd_store ?_); refine wpList_store_cell rfl 5 (.tmp 62) (.tmp 61) rfl (i := j) (v := .int .u8 (((i : Int) + (j : Int)) % 256)) hxg hjc (by kernel_rfl) rfl rfl rfl ?_; intro w5 hx5 hg5)
            | fail)
          have ho5 := HSET.out w5 (UInt8.ofNat (i + j)) (by rw [u8_mod (i + j)]; exact hx5)
          have hb5 := HBB.out.grown hg5 HBB.out.size (fun k hk => by injection hk with hk; have := HBG.out; omega)
          go_roundw
          case rel => first | exact ⟨j + 1, _, by omega, by go_num, ho5, H0.out, hb5⟩ | ((repeat apply Exists.intro); exact ⟨⟨j + 1, _, by omega, by go_num, ho5, H0.out, hb5⟩, rfl⟩)
          case measure => simp [RowKit.intOf]; omega
        · obtain rfl : j = sz := by omega
          have f2 : decide ((j : Int) < (j : Int)) = false := decide_eq_false (by omega)
          have hsq := HS.out.ext hb
          have HLL := Lib.hid hll
          have H0 := Lib.hid h0
          have HBV := Lib.hid (Bytes.own ho)
          have tok : True := trivial
          clear hbb hob ho hb h0 hll
          go_wp2_with (first
            | ((with_reducible refine gd_rowC ?_); have _t := tok; refine wpList_row_val (v := .int .u8 107) rfl (.const (.int .u8 107)) rfl hbT (by decide) rfl rfl ?_; intro w3 hx3 hb3 hl3; clear tok)
            | ((with_reducible refine gd_convert ?_); refine wpList_lit rfl (.tmp 64) rfl u8sTy u8Ty rfl hx3 (l := [107]) rfl rfl (Nat.le_refl _) (by decide) ?_; intro w4 hg4 hs4 B4; clear hs4; have hb4 := below_blk hb3 hb3.size hg4 (Nat.le_refl _))
            | (refine wpList_row_one rfl (.tmp 67) rfl hTO (by decide) (cs := #[.bool false, .slice (some ⟨wr.heap.size, 0, none⟩) 1 1, .slice Ab j cb]) rfl rfl ?_; intro w7 hx7 hb7 hl7; have hb47 := below_step hb4 hb7; have HOPS := Lib.hid (ops_one (r := ⟨1, false, [107], l, 0⟩) hx7 (B4.ext hb7) (HBV.out.ext hb47) rfl rfl); have h7 := hsq.ext hb47)
            | (go_at_call 12; (refine (One_write h7 HK.out (by omega) (by omega) HOPS.out HLL.out H0.out).mono ?_); rintro e w8 ⟨rfl, S8, k8, h8⟩; clear hsq h7)
            | (go_at_call 13; (refine (NU.out _ _).mono ?_); rintro e wn ⟨rfl, rfl⟩)
            | fail)
          go_roundw
          case rel => first | exact ⟨i + 1, S8, by omega, by go_num, k8, h8⟩ | ((repeat apply Exists.intro); exact ⟨⟨i + 1, S8, by omega, by go_num, k8, h8⟩, rfl⟩)
          case measure => simp [RowKit.intOf]; omega
    · obtain rfl : i = nn := by omega
      have f0 : decide ((i : Int) < (i : Int)) = false := decide_eq_false (by omega)
      obtain ⟨V, rfl, hV, hv0⟩ : ∃ V : List UInt8, S = [([107], V)] ∧ V.length = sz ∧ (0 < sz → V[0]? = some (UInt8.ofNat (i - 1))) := by
        rcases HK.out.ex with ⟨h, _⟩ | ⟨_, h⟩
        · omega
        · exact h
      have HV := Lib.hid hV
      have H0 := Lib.hid hv0
      have tok : True := trivial
      have tokP : True := trivial
      clear HK hV hv0
      by_cases hz : sz = 0
      · subst hz
        clear H0
        go_wp2_with (first
          | (go_at_call 16; (refine (One_compact HS.out (by omega) (by omega) HV.out).mono ?_); rintro e w3 ⟨rfl, h3⟩; have H3 := Lib.hid h3; clear h3)
          | ((with_reducible refine gd_rowC ?_); have _t := tok; refine wpList_row_val (v := .int .u8 107) rfl (.const (.int .u8 107)) rfl hbT (by decide) rfl rfl ?_; intro w4 hx4 hb4 hl4; clear tok)
          | ((with_reducible refine gd_convert ?_); refine wpList_lit rfl (.tmp 77) rfl u8sTy u8Ty rfl hx4 (l := [107]) rfl rfl (Nat.le_refl _) (by decide) ?_; intro w5 hg5 hs5 B5; clear hs5; have hb5 := below_blk hb4 hb4.size hg5 (Nat.le_refl _))
          | (go_at_call 14; (refine (OneEnd_get (H3.out.ext hb5) HV.out _ B5).mono ?_); rintro e w6 ⟨A6, c6, rfl, h6⟩; have H6 := Lib.hid h6; clear h6)
          | (go_at_call 11; (refine (OneEnd_open H6.out (by omega)).mono ?_); rintro e w7 ⟨q7, rfl, h7, c7, N7, o7, K7⟩; have H7V := Lib.hid h7; have H7 := Lib.hid h7.end_; have HK7 := Lib.hid K7; clear h7 K7)
          | (go_at_call 13; (refine (NU.out _ _).mono ?_); rintro e wn ⟨rfl, rfl⟩)
          | (go_at_call 17; (refine (OneEnd_bytes H7.out (by omega)).mono ?_); rintro e w8 ⟨m, rfl, hm, hb8⟩; have fm : decide ((m : Int) ≤ 4152) = true := decide_eq_true (by omega); clear hm)
          | (go_at_call 22; have _t := tokP; (refine (Pairs_any (HK7.out.ext hb8)).mono ?_); rintro e w9 ⟨v9, rfl, s9, hb9⟩; have H9 := Lib.hid ((H7.out.ext hb8).ext hb9); have S9 := Lib.hid s9.slice; clear tokP s9)
          | (go_at_call 22; (refine (OneEnd_pairs H9.out).mono ?_); rintro e w10 ⟨v10, rfl, s10, hb10⟩; have H10 := Lib.hid (H9.out.ext hb10); have S10 := Lib.hid s10)
          | (go_at_call 23; (refine (SamePairs_true _ _ _ _ (S9.out.ext rPair_stays hb10) S10.out).mono ?_); rintro e w11 ⟨rfl, hb11⟩)
          | fail)
        go_ret
        exact ⟨rfl, (H10.out.ext hb11).below⟩
      · have fz : ((sz : Int) == 0) = false := beq_eq_false_iff_ne.2 (by omega)
        have fz0 : 0 < sz := by omega
        have fz1 : (0 : Int) < sz := by omega
        have fz2 : decide ((0 : Int) < sz) = true := decide_eq_true fz1
        have H00 := Lib.hid (H0.out (by omega))
        clear H0
        go_wp2_with (first
          | (go_at_call 16; (refine (One_compact HS.out (by omega) (by omega) HV.out).mono ?_); rintro e w3 ⟨rfl, h3⟩; have H3 := Lib.hid h3; clear h3)
          | ((with_reducible refine gd_rowC ?_); have _t := tok; refine wpList_row_val (v := .int .u8 107) rfl (.const (.int .u8 107)) rfl hbT (by decide) rfl rfl ?_; intro w4 hx4 hb4 hl4; clear tok)
          | ((with_reducible refine gd_convert ?_); refine wpList_lit rfl (.tmp 77) rfl u8sTy u8Ty rfl hx4 (l := [107]) rfl rfl (Nat.le_refl _) (by decide) ?_; intro w5 hg5 hs5 B5; clear hs5; have hb5 := below_blk hb4 hb4.size hg5 (Nat.le_refl _))
          | (go_at_call 14; (refine (OneEnd_get (H3.out.ext hb5) HV.out _ B5).mono ?_); rintro e w6 ⟨A6, c6, rfl, h6⟩; have H6 := Lib.hid h6; clear h6)
          | (go_at_call 11; (refine (OneEnd_open H6.out (by omega)).mono ?_); rintro e w7 ⟨q7, rfl, h7, c7, N7, o7, K7⟩; have H7V := Lib.hid h7; have H7 := Lib.hid h7.end_; have HK7 := Lib.hid K7; clear h7 K7)
          | (go_at_call 13; (refine (NU.out _ _).mono ?_); rintro e wn ⟨rfl, rfl⟩)
          | (go_at_call 17; (refine (OneEnd_bytes H7.out (by omega)).mono ?_); rintro e w8 ⟨m, rfl, hm, hb8⟩; have fm : decide ((m : Int) ≤ 4096 + 2 * (15 + (sz : Int) + 13)) = true := decide_eq_true (by omega); clear hm; obtain ⟨ad6, rfl, hc6⟩ := (H7V.out.ext hb8).first H00.out (by omega) (by omega))
          | (go_at_call 22; have _t := tokP; (refine (Pairs_any (HK7.out.ext hb8)).mono ?_); rintro e w9 ⟨v9, rfl, s9, hb9⟩; have H9 := Lib.hid ((H7.out.ext hb8).ext hb9); have S9 := Lib.hid s9.slice; clear tokP s9)
          | (go_at_call 22; (refine (OneEnd_pairs H9.out).mono ?_); rintro e w10 ⟨v10, rfl, s10, hb10⟩; have H10 := Lib.hid (H9.out.ext hb10); have S10 := Lib.hid s10)
          | (go_at_call 23; (refine (SamePairs_true _ _ _ _ (S9.out.ext rPair_stays hb10) S10.out).mono ?_); rintro e w11 ⟨rfl, hb11⟩)
          | fail)
        go_ret
        exact ⟨rfl, (H10.out.ext hb11).below⟩
open Go.ChangeShapes Go.WideShapes Go.ChangeAt

set_option maxRecDepth 100000 in
theorem lifted (os : Os) (started : os.Started) (H : Type) (enc : TypeId × Value → H) :
    ReturnsInHanded {} Try.checked os 5 .any (Rows.kvManySpec.pre6 enc Try.prog Try.f5 Rows.kvManyRow.domain false) (Rows.kvManySpec.post enc Try.prog Try.f5 false true false false) := by
  refine law_lift (C := Try.checked) (ts := [3, 3]) (tb := 4) (by kernel_rfl) started (by kernel_rfl) Try.func5
    (ChangeSpec.witness6 (enc := enc) (C := Try.checked) false ⟨#[], #[.int .i64 0, .int .i64 0], []⟩ 8 (by kernel_rfl) (by kernel_rfl) (by kernel_rfl) (by kernel_rfl))
    (by kernel_rfl) (by kernel_rfl) (by kernel_rfl) (by kernel_rfl) Try.underlying4 rfl (fun ds h => by match ds, h with | [_, _], _ => rfl) ?_
  intro W vs hl h
  match vs, hl with
  | [v0, v1], _ =>
    obtain ⟨n, rfl, hn⟩ := arg_int Try.underlying3 (h 0 _ v0 rfl rfl)
    obtain ⟨s, rfl, hs⟩ := arg_int Try.underlying3 (h 1 _ v1 rfl rfl)
    by_cases h1 : n < 1
    · exact early1 n s W h1
    · by_cases h2 : 100 < n
      · exact early2 n s W h2
      · by_cases h3 : s < 0
        · exact early3 n s W (by omega) (by omega) h3
        · by_cases h4 : 500 < s
          · exact early4 n s W (by omega) (by omega) h4
          · obtain ⟨nn, rfl⟩ := Int.eq_ofNat_of_zero_le (show 0 ≤ n by omega)
            obtain ⟨sz, rfl⟩ := Int.eq_ofNat_of_zero_le (show 0 ≤ s by omega)
            exact main nn sz W (by omega) (by omega) (by omega)

theorem over : Rows.kvManyRow.holds Try.pinned (OpenSpec.ofChange Rows.kvManySpec) :=
  OpenClaim.holds_of_wide 5 Try.f5 rfl rfl rfl rfl rfl rfl rfl ⟨rfl, rfl, rfl, rfl, rfl⟩ rfl rfl rfl rfl rfl (by kernel_rfl) Try.func5 (by kernel_rfl)
    (of_decide_eq_true (by kernel_rfl)) (by unfold Func.isWrapper; first | (rw [if_pos (by decide +kernel)]; kernel_rfl) | (rw [if_neg (by decide +kernel)]; exact ⟨rfl, rfl⟩))
    (fun os started H enc _ => lifted os started H enc)
end Go.Proofs.Ythjnebngdcdicaa.KvMany
namespace Go.Proofs.Ythjnebngdcdicaa
theorem kvMany_holds : Rows.KvManySaid := KvMany.over
#print axioms kvMany_holds
end Go.Proofs.Ythjnebngdcdicaa
