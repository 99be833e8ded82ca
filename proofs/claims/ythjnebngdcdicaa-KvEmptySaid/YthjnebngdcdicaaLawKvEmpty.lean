/- 'KvEmpty' answers true at every input, and leaves what it was given. No condition. -/
import Derived.Test.YthjnebngdcdicaaKvLit
import Derived.Test.YthjnebngdcdicaaRows
namespace Go.Proofs.Ythjnebngdcdicaa.KvEmpty
open Go Go.RowKit Go.Mun Go.Proofs Go.Maps

set_option maxRecDepth 100000 in
set_option maxHeartbeats 16000000 in
theorem walk (kv : Value) (key : List UInt8) (del : Bool) (w : World) (hk : Bytes w kv key) :
    Calls Try.prog 3 #[kv, .bool del] w fun e w' => e = .returned (.bool true) ∧ Below w.heap.size w w' := by
  have CA := Lib.hid alive23_any
  have HK := Lib.hid (fun w' (hb : Below w.heap.size w w') => hk.ext hb)
  have hbT := bytesTyC
  have hTO := opsTy
  obtain ⟨AK, nk, cK, rfl, hnk, _⟩ := id hk
  clear hk
  by_cases d1 : 200 < nk
  · have e1 : decide ((200 : Int) < (nk : Int)) = true := decide_eq_true (by omega)
    go_enter Try.func3, Try.ntmps3
    go_wp2_with (first
      | (go_at_call 9; (refine (CA.out _).mono ?_); rintro e wa ⟨rfl, hba⟩)
      | fail)
    go_ret
    exact ⟨rfl, hba⟩
  have e1 : decide ((200 : Int) < (nk : Int)) = false := decide_eq_false (by omega)
  have hkl : key.length ≤ 200 := by omega
  have f0 : FitS [] := ⟨List.Pairwise.nil, Nat.zero_le _, fun e he => absurd he List.not_mem_nil⟩
  have o1 : OpW ⟨1, false, key, [], 0⟩ := ⟨rfl, rfl, Nat.le_trans hkl (by decide), Nat.zero_le _⟩
  have o2 : OpW ⟨1, false, [], [120], 0⟩ := ⟨rfl, rfl, Nat.zero_le _, by decide⟩
  have o3 : OpW ⟨1, true, key, notLooked, 0⟩ := ⟨rfl, rfl, Nat.le_trans hkl (by decide), by show notLooked.length ≤ 600; decide⟩
  have hw1 : WideL [⟨1, false, key, [], 0⟩, ⟨1, false, [], [120], 0⟩] := ⟨by simp, fun r hr => by rcases List.mem_cons.1 hr with rfl | hr; exact o1; rw [List.mem_singleton.1 hr]; exact o2⟩
  have hw2 : WideL [⟨1, true, key, notLooked, 0⟩] := ⟨by simp, fun r hr => by rw [List.mem_singleton.1 hr]; exact o3⟩
  obtain ⟨S1, hS1⟩ : ∃ x, x = doneP [] [⟨1, false, key, [], 0⟩, ⟨1, false, [], [120], 0⟩] := ⟨_, rfl⟩
  obtain ⟨S2, hS2⟩ : ∃ x, x = doneP S1 [⟨1, true, key, notLooked, 0⟩] := ⟨_, rfl⟩
  have g1 : ∀ k, getP S1 k = if k = [] then some [120] else if k = key then some [] else none := fun k => by
    have e : S1 = setP (setP [] key (some [])) [] (some [120]) := hS1
    rw [e, getP_set, getP_set]
    rfl
  have g2 : ∀ k, getP S2 k = if k = key then none else getP S1 k := fun k => by
    have e : S2 = setP S1 key none := hS2
    rw [e, getP_set]
  have f1 : FitS S1 := by rw [hS1]; exact fit_one (by simp) hw1.2
  have f2 : FitS S2 := by
    rw [hS2, hS1, ← doneP_append]
    exact fit_one (by simp) fun r hr => by rcases List.mem_append.1 hr with hr | hr; exact hw1.2 r hr; exact hw2.2 r hr
  have hl1 : S1.length ≤ 2 := by rw [hS1]; exact length_done [] _
  have hl2 : S2.length ≤ 3 := by rw [hS2]; exact Nat.le_trans (length_done S1 _) (Nat.add_le_add_right hl1 1)
  have hb1 := batch_1000 hw1
  have hb2 := batch_1000 hw2
  have hs1 := whole_1000 f1
  have hs2 := whole_1000 f2
  simp only [List.length_cons, List.length_nil] at hb1 hb2
  have NU := Lib.hid num_any
  have OP1 := Lib.hid (fun p o1 w1 (h : Up 0 p newM [] 1 0 0 0 o1 w w1) => Open_up (j := 1) h f0 (by decide) (by omega) (by omega) (by omega))
  have WR1 := Lib.hid (fun p q c o2 w2 vl (h : UpK 0 1 p q newM [] c 1 0 0 0 0 o2 w w2) (hl : SliceOf 3 rOp w2 vl [⟨1, false, key, [], 0⟩, ⟨1, false, [], [120], 0⟩]) => Write_up (B' := 3000) h (by decide) hl hw1 (by rw [← hS1]; exact f1) (by omega) (by omega) (by omega) (by omega) (by omega) (by rw [← hS1]; omega))
  have WR2 := Lib.hid (fun p q c M2 o2 w2 vl (h : UpK 0 1 p q M2 S1 c 2 3000 2 10 3000 o2 w w2) (hl : SliceOf 3 rOp w2 vl [⟨1, true, key, notLooked, 0⟩]) => Write_up (B' := 6000) h (by decide) hl hw2 (by rw [← hS2]; exact f2) (by omega) (by omega) (by omega) (by omega) (by omega) (by rw [← hS2]; omega))
  rw [← hS1] at WR1
  rw [← hS2] at WR2
  have OP2a := Lib.hid (fun p M o1 w1 (h : Up 0 p M S1 2 3000 10 3000 o1 w w1) => Open_up (j := 2) h f1 (by decide) (by omega) (by omega) (by omega))
  have OP2b := Lib.hid (fun p M o1 w1 (h : Up 0 p M S2 3 6000 20 9000 o1 w w1) => Open_up (j := 2) h f2 (by decide) (by omega) (by omega) (by omega))
  clear hS1 hS2 hb1 hb2 hs1 hs2 hl1 hl2 f0 f1 f2 o1 o2 o3 hw1 hw2 hkl
  have tok : True := trivial
  have tok2 : True := trivial
  have tok3 : True := trivial
  have tok4 : True := trivial
  by_cases hke : key = []
  · obtain rfl : nk = 0 := by rw [hke] at hnk; simpa using hnk.symm
    cases del
    · have OP2 := OP2a
      clear OP2a OP2b WR2
      have XK := Lib.hid (show getP S1 key = some [120] from (g1 key).trans (if_pos hke))
      have XN := Lib.hid (show getP S1 [] = some [120] from (g1 []).trans (if_pos rfl))
      clear g1 g2
      go_enter Try.func3, Try.ntmps3
      go_wp2_with (first
        | (go_at_call 9; (refine (CA.out _).mono ?_); rintro e wa ⟨rfl, hba⟩; have N0 := Lib.hid (New_up (w0 := w) (w := wa) (o := fun _ => none) 0 (fun _ _ => rfl) hba (fun _ _ => rfl)))
        | (go_at_call 10; (refine N0.out.mono ?_); rintro e w1 ⟨p, o1, rfl, h1, T1⟩)
        | (go_at_call 11; have _t := tok; (refine (OP1.out p o1 w1 h1).mono ?_); rintro e w2 ⟨q, rfl, cl, o2, h2, T2, _⟩; clear tok)
        | (go_at_call 13; (refine (NU.out _ _).mono ?_); rintro e wn ⟨rfl, rfl⟩)
        | ((with_reducible refine gd_rowC ?_); have _t := tok2; refine wpList_row_val (v := .int .u8 120) rfl (.const (.int .u8 120)) rfl hbT (by decide) rfl rfl ?_; intro w3 hx3 hb3 hl3; clear tok2)
        | ((with_reducible refine gd_convert ?_); refine wpList_lit rfl (.tmp 34) rfl u8sTy u8Ty rfl hx3 (l := [120]) rfl rfl (Nat.le_refl _) (by decide) ?_; intro w4 hg4 hs4 B4; clear hs4; have hb4 := below_blk hb3 hb3.size hg4 (Nat.le_refl _))
        | (refine wpList_row_two3 rfl (.tmp 33) (.tmp 36) rfl hTO (a1 := .bool false) (b1 := .slice AK 0 cK) (c1 := .slice none 0 0) (a2 := .bool false) (b2 := .slice none 0 0) (c2 := .slice (some ⟨w2.heap.size, 0, none⟩) 1 1) rfl rfl ?_; intro w5 hx5 hb5 hl5; have hb25 := below_step hb4 hb5; have h5 := h2.ext hb25; have HOPS := Lib.hid (ops_two (r := ⟨1, false, key, [], 0⟩) (s := ⟨1, false, [], [120], 0⟩) hx5 (HK.out _ h5.fs.below) (Bytes.nil _) (Bytes.nil _) (B4.ext hb5) rfl rfl rfl rfl); have HU5 := Lib.hid h5)
        | (go_at_call 12; have _t := tok3; (refine (WR1.out p q cl o2 w5 _ HU5.out HOPS.out).mono ?_); rintro e w6 ⟨rfl, M6, ob, o6, wb, h6, Ta, Tb⟩; clear tok3; have HU6 := Lib.hid h6)
        | (go_at_call 11; (refine (OP2.out p M6 o6 w6 HU6.out.up).mono ?_); rintro e wy ⟨qy, rfl, cy, oy, hy, Ty, _⟩; have HY := Lib.hid hy)
        | (go_at_call 14; have _t := tok4; (refine (Get_opt HY.out.kv _ key _ (HK.out _ HY.out.fs.below) XK.out).mono ?_); clear tok4; rintro e wz ⟨vz, rfl, hoz, hbz⟩; have hyz := HY.out.ext hbz; have HZ := Lib.hid hyz; have yz := fun wq (hb : Below wz.heap.size wz wq) => run_str (P := Try.prog) (src := 22) (dst := 9) ((Bytes.own hoz).ext hb) Try.underlying22 Try.underlying5 Try.underlying9; obtain ⟨Az, cz, rfl⟩ := own_sl hoz)
        | (go_at_call 14; (refine (Get_opt HZ.out.kv _ [] _ (Bytes.nil _) XN.out).mono ?_); rintro e wv ⟨vv, rfl, hov, hbv⟩; have yv := run_str (P := Try.prog) (src := 22) (dst := 9) (Bytes.own hov) Try.underlying22 Try.underlying5 Try.underlying9; have yz2 := yz _ hbv; simp only [Option.getD_some, List.length_cons, List.length_nil, Nat.zero_add] at yz2 yv; have HFIN := Lib.hid (HZ.out.ext hbv).fs.below)
        | fail)
      go_ret
      exact ⟨rfl, HFIN.out⟩
    · have OP2 := OP2b
      clear OP2a OP2b
      have XK := Lib.hid (show getP S2 key = none from (g2 key).trans (if_pos rfl))
      have XN := Lib.hid (show getP S2 [] = none from (g2 []).trans (if_pos hke.symm))
      clear g1 g2
      go_enter Try.func3, Try.ntmps3
      go_wp2_with (first
        | (go_at_call 9; (refine (CA.out _).mono ?_); rintro e wa ⟨rfl, hba⟩; have N0 := Lib.hid (New_up (w0 := w) (w := wa) (o := fun _ => none) 0 (fun _ _ => rfl) hba (fun _ _ => rfl)))
        | (go_at_call 10; (refine N0.out.mono ?_); rintro e w1 ⟨p, o1, rfl, h1, T1⟩)
        | (go_at_call 11; have _t := tok; (refine (OP1.out p o1 w1 h1).mono ?_); rintro e w2 ⟨q, rfl, cl, o2, h2, T2, _⟩; clear tok)
        | (go_at_call 13; (refine (NU.out _ _).mono ?_); rintro e wn ⟨rfl, rfl⟩)
        | ((with_reducible refine gd_rowC ?_); have _t := tok2; refine wpList_row_val (v := .int .u8 120) rfl (.const (.int .u8 120)) rfl hbT (by decide) rfl rfl ?_; intro w3 hx3 hb3 hl3; clear tok2)
        | ((with_reducible refine gd_convert ?_); refine wpList_lit rfl (.tmp 34) rfl u8sTy u8Ty rfl hx3 (l := [120]) rfl rfl (Nat.le_refl _) (by decide) ?_; intro w4 hg4 hs4 B4; clear hs4; have hb4 := below_blk hb3 hb3.size hg4 (Nat.le_refl _))
        | (refine wpList_row_two3 rfl (.tmp 33) (.tmp 36) rfl hTO (a1 := .bool false) (b1 := .slice AK 0 cK) (c1 := .slice none 0 0) (a2 := .bool false) (b2 := .slice none 0 0) (c2 := .slice (some ⟨w2.heap.size, 0, none⟩) 1 1) rfl rfl ?_; intro w5 hx5 hb5 hl5; have hb25 := below_step hb4 hb5; have h5 := h2.ext hb25; have HOPS := Lib.hid (ops_two (r := ⟨1, false, key, [], 0⟩) (s := ⟨1, false, [], [120], 0⟩) hx5 (HK.out _ h5.fs.below) (Bytes.nil _) (Bytes.nil _) (B4.ext hb5) rfl rfl rfl rfl); have HU5 := Lib.hid h5)
        | (go_at_call 12; have _t := tok3; (refine (WR1.out p q cl o2 w5 _ HU5.out HOPS.out).mono ?_); rintro e w6 ⟨rfl, M6, ob, o6, wb, h6, Ta, Tb⟩; clear tok3; have HU6 := Lib.hid h6)
        | (refine wpList_notLooked rfl rfl ?_; intro w7 hx7 hb7 hl7)
        | ((with_reducible refine gd_convert ?_); refine wpList_lit rfl (.tmp 42) rfl u8sTy u8Ty rfl hx7 (l := notLooked) rfl rfl (Nat.le_refl _) (by decide) ?_; intro w8 hg8 hs8 B8; clear hs8; have hb8 := below_blk hb7 hb7.size hg8 (Nat.le_refl _))
        | (refine wpList_row_one rfl (.tmp 44) rfl hTO (by decide) (cs := #[.bool true, .slice AK 0 cK, .slice (some ⟨w6.heap.size, 0, none⟩) 13 13]) rfl rfl ?_; intro w9 hx9 hb9 hl9; have hb69 := below_step hb8 hb9; have h9 := HU6.out.ext hb69; have HOPS2 := Lib.hid (ops_one (r := ⟨1, true, key, notLooked, 0⟩) hx9 (HK.out _ h9.fs.below) (B8.ext hb9) rfl rfl); have HU9 := Lib.hid h9)
        | (go_at_call 12; (refine (WR2.out p q _ M6 o6 w9 _ HU9.out HOPS2.out).mono ?_); rintro e wx ⟨rfl, MX, oc, oX, wc, hX, Tc, Td⟩; have HUX := Lib.hid hX.up)
        | (go_at_call 11; (refine (OP2.out p MX oX wx HUX.out).mono ?_); rintro e wy ⟨qy, rfl, cy, oy, hy, Ty, _⟩; have HY := Lib.hid hy)
        | (go_at_call 14; have _t := tok4; (refine (Get_opt HY.out.kv _ key _ (HK.out _ HY.out.fs.below) XK.out).mono ?_); clear tok4; rintro e wz ⟨vz, rfl, hoz, hbz⟩; have hyz := HY.out.ext hbz; have HZ := Lib.hid hyz; have yz := fun wq (hb : Below wz.heap.size wz wq) => run_str (P := Try.prog) (src := 22) (dst := 9) ((Bytes.own hoz).ext hb) Try.underlying22 Try.underlying5 Try.underlying9; obtain ⟨Az, cz, rfl⟩ := own_sl hoz)
        | (go_at_call 14; (refine (Get_opt HZ.out.kv _ [] _ (Bytes.nil _) XN.out).mono ?_); rintro e wv ⟨vv, rfl, hov, hbv⟩; have yv := run_str (P := Try.prog) (src := 22) (dst := 9) (Bytes.own hov) Try.underlying22 Try.underlying5 Try.underlying9; have yz2 := yz _ hbv; have HFIN := Lib.hid (HZ.out.ext hbv).fs.below)
        | fail)
      go_ret
      exact ⟨rfl, HFIN.out⟩
  · have z1 : decide ((nk : Int) = 0) = false := decide_eq_false (fun h => hke (List.eq_nil_of_length_eq_zero (by omega)))
    have z2 : decide (nk = 0) = false := decide_eq_false (fun h => hke (List.eq_nil_of_length_eq_zero (by omega)))
    have z3 : (nk == 0) = false := beq_eq_false_iff_ne.2 (fun h => hke (List.eq_nil_of_length_eq_zero (by omega)))
    have z4 : ((nk : Int) == 0) = false := beq_eq_false_iff_ne.2 (fun h => hke (List.eq_nil_of_length_eq_zero (by omega)))
    cases del
    · have OP2 := OP2a
      clear OP2a OP2b WR2
      have XK := Lib.hid (show getP S1 key = some [] from (g1 key).trans ((if_neg hke).trans (if_pos rfl)))
      have XN := Lib.hid (show getP S1 [] = some [120] from (g1 []).trans (if_pos rfl))
      clear g1 g2
      go_enter Try.func3, Try.ntmps3
      go_wp2_with (first
        | (go_at_call 9; (refine (CA.out _).mono ?_); rintro e wa ⟨rfl, hba⟩; have N0 := Lib.hid (New_up (w0 := w) (w := wa) (o := fun _ => none) 0 (fun _ _ => rfl) hba (fun _ _ => rfl)))
        | (go_at_call 10; (refine N0.out.mono ?_); rintro e w1 ⟨p, o1, rfl, h1, T1⟩)
        | (go_at_call 11; have _t := tok; (refine (OP1.out p o1 w1 h1).mono ?_); rintro e w2 ⟨q, rfl, cl, o2, h2, T2, _⟩; clear tok)
        | (go_at_call 13; (refine (NU.out _ _).mono ?_); rintro e wn ⟨rfl, rfl⟩)
        | ((with_reducible refine gd_rowC ?_); have _t := tok2; refine wpList_row_val (v := .int .u8 120) rfl (.const (.int .u8 120)) rfl hbT (by decide) rfl rfl ?_; intro w3 hx3 hb3 hl3; clear tok2)
        | ((with_reducible refine gd_convert ?_); refine wpList_lit rfl (.tmp 34) rfl u8sTy u8Ty rfl hx3 (l := [120]) rfl rfl (Nat.le_refl _) (by decide) ?_; intro w4 hg4 hs4 B4; clear hs4; have hb4 := below_blk hb3 hb3.size hg4 (Nat.le_refl _))
        | (refine wpList_row_two3 rfl (.tmp 33) (.tmp 36) rfl hTO (a1 := .bool false) (b1 := .slice AK nk cK) (c1 := .slice none 0 0) (a2 := .bool false) (b2 := .slice none 0 0) (c2 := .slice (some ⟨w2.heap.size, 0, none⟩) 1 1) rfl rfl ?_; intro w5 hx5 hb5 hl5; have hb25 := below_step hb4 hb5; have h5 := h2.ext hb25; have HOPS := Lib.hid (ops_two (r := ⟨1, false, key, [], 0⟩) (s := ⟨1, false, [], [120], 0⟩) hx5 (HK.out _ h5.fs.below) (Bytes.nil _) (Bytes.nil _) (B4.ext hb5) rfl rfl rfl rfl); have HU5 := Lib.hid h5)
        | (go_at_call 12; have _t := tok3; (refine (WR1.out p q cl o2 w5 _ HU5.out HOPS.out).mono ?_); rintro e w6 ⟨rfl, M6, ob, o6, wb, h6, Ta, Tb⟩; clear tok3; have HU6 := Lib.hid h6)
        | (go_at_call 11; (refine (OP2.out p M6 o6 w6 HU6.out.up).mono ?_); rintro e wy ⟨qy, rfl, cy, oy, hy, Ty, _⟩; have HY := Lib.hid hy)
        | (go_at_call 14; have _t := tok4; (refine (Get_opt HY.out.kv _ key _ (HK.out _ HY.out.fs.below) XK.out).mono ?_); clear tok4; rintro e wz ⟨vz, rfl, hoz, hbz⟩; have hyz := HY.out.ext hbz; have HZ := Lib.hid hyz; have yz := fun wq (hb : Below wz.heap.size wz wq) => run_str (P := Try.prog) (src := 22) (dst := 9) ((Bytes.own hoz).ext hb) Try.underlying22 Try.underlying5 Try.underlying9; obtain ⟨Az, cz, rfl⟩ := own_sl hoz)
        | (go_at_call 14; (refine (Get_opt HZ.out.kv _ [] _ (Bytes.nil _) XN.out).mono ?_); rintro e wv ⟨vv, rfl, hov, hbv⟩; have yv := run_str (P := Try.prog) (src := 22) (dst := 9) (Bytes.own hov) Try.underlying22 Try.underlying5 Try.underlying9; have yz2 := yz _ hbv; have HFIN := Lib.hid (HZ.out.ext hbv).fs.below)
        | fail)
      go_ret
      exact ⟨rfl, HFIN.out⟩
    · have OP2 := OP2b
      clear OP2a OP2b
      have XK := Lib.hid (show getP S2 key = none from (g2 key).trans (if_pos rfl))
      have XN := Lib.hid (show getP S2 [] = some [120] from (g2 []).trans ((if_neg (Ne.symm hke)).trans ((g1 []).trans (if_pos rfl))))
      clear g1 g2
      go_enter Try.func3, Try.ntmps3
      go_wp2_with (first
        | (go_at_call 9; (refine (CA.out _).mono ?_); rintro e wa ⟨rfl, hba⟩; have N0 := Lib.hid (New_up (w0 := w) (w := wa) (o := fun _ => none) 0 (fun _ _ => rfl) hba (fun _ _ => rfl)))
        | (go_at_call 10; (refine N0.out.mono ?_); rintro e w1 ⟨p, o1, rfl, h1, T1⟩)
        | (go_at_call 11; have _t := tok; (refine (OP1.out p o1 w1 h1).mono ?_); rintro e w2 ⟨q, rfl, cl, o2, h2, T2, _⟩; clear tok)
        | (go_at_call 13; (refine (NU.out _ _).mono ?_); rintro e wn ⟨rfl, rfl⟩)
        | ((with_reducible refine gd_rowC ?_); have _t := tok2; refine wpList_row_val (v := .int .u8 120) rfl (.const (.int .u8 120)) rfl hbT (by decide) rfl rfl ?_; intro w3 hx3 hb3 hl3; clear tok2)
        | ((with_reducible refine gd_convert ?_); refine wpList_lit rfl (.tmp 34) rfl u8sTy u8Ty rfl hx3 (l := [120]) rfl rfl (Nat.le_refl _) (by decide) ?_; intro w4 hg4 hs4 B4; clear hs4; have hb4 := below_blk hb3 hb3.size hg4 (Nat.le_refl _))
        | (refine wpList_row_two3 rfl (.tmp 33) (.tmp 36) rfl hTO (a1 := .bool false) (b1 := .slice AK nk cK) (c1 := .slice none 0 0) (a2 := .bool false) (b2 := .slice none 0 0) (c2 := .slice (some ⟨w2.heap.size, 0, none⟩) 1 1) rfl rfl ?_; intro w5 hx5 hb5 hl5; have hb25 := below_step hb4 hb5; have h5 := h2.ext hb25; have HOPS := Lib.hid (ops_two (r := ⟨1, false, key, [], 0⟩) (s := ⟨1, false, [], [120], 0⟩) hx5 (HK.out _ h5.fs.below) (Bytes.nil _) (Bytes.nil _) (B4.ext hb5) rfl rfl rfl rfl); have HU5 := Lib.hid h5)
        | (go_at_call 12; have _t := tok3; (refine (WR1.out p q cl o2 w5 _ HU5.out HOPS.out).mono ?_); rintro e w6 ⟨rfl, M6, ob, o6, wb, h6, Ta, Tb⟩; clear tok3; have HU6 := Lib.hid h6)
        | (refine wpList_notLooked rfl rfl ?_; intro w7 hx7 hb7 hl7)
        | ((with_reducible refine gd_convert ?_); refine wpList_lit rfl (.tmp 42) rfl u8sTy u8Ty rfl hx7 (l := notLooked) rfl rfl (Nat.le_refl _) (by decide) ?_; intro w8 hg8 hs8 B8; clear hs8; have hb8 := below_blk hb7 hb7.size hg8 (Nat.le_refl _))
        | (refine wpList_row_one rfl (.tmp 44) rfl hTO (by decide) (cs := #[.bool true, .slice AK nk cK, .slice (some ⟨w6.heap.size, 0, none⟩) 13 13]) rfl rfl ?_; intro w9 hx9 hb9 hl9; have hb69 := below_step hb8 hb9; have h9 := HU6.out.ext hb69; have HOPS2 := Lib.hid (ops_one (r := ⟨1, true, key, notLooked, 0⟩) hx9 (HK.out _ h9.fs.below) (B8.ext hb9) rfl rfl); have HU9 := Lib.hid h9)
        | (go_at_call 12; (refine (WR2.out p q _ M6 o6 w9 _ HU9.out HOPS2.out).mono ?_); rintro e wx ⟨rfl, MX, oc, oX, wc, hX, Tc, Td⟩; have HUX := Lib.hid hX.up)
        | (go_at_call 11; (refine (OP2.out p MX oX wx HUX.out).mono ?_); rintro e wy ⟨qy, rfl, cy, oy, hy, Ty, _⟩; have HY := Lib.hid hy)
        | (go_at_call 14; have _t := tok4; (refine (Get_opt HY.out.kv _ key _ (HK.out _ HY.out.fs.below) XK.out).mono ?_); clear tok4; rintro e wz ⟨vz, rfl, hoz, hbz⟩; have hyz := HY.out.ext hbz; have HZ := Lib.hid hyz; have yz := fun wq (hb : Below wz.heap.size wz wq) => run_str (P := Try.prog) (src := 22) (dst := 9) ((Bytes.own hoz).ext hb) Try.underlying22 Try.underlying5 Try.underlying9; obtain ⟨Az, cz, rfl⟩ := own_sl hoz)
        | (go_at_call 14; (refine (Get_opt HZ.out.kv _ [] _ (Bytes.nil _) XN.out).mono ?_); rintro e wv ⟨vv, rfl, hov, hbv⟩; have yv := run_str (P := Try.prog) (src := 22) (dst := 9) (Bytes.own hov) Try.underlying22 Try.underlying5 Try.underlying9; have yz2 := yz _ hbv; have HFIN := Lib.hid (HZ.out.ext hbv).fs.below)
        | fail)
      go_ret
      exact ⟨rfl, HFIN.out⟩
open Go.ChangeShapes Go.WideShapes Go.ChangeAt

set_option maxRecDepth 100000 in
theorem lifted (os : Os) (started : os.Started) (H : Type) (enc : TypeId × Value → H) :
    ReturnsInHanded {} Try.checked os 3 .any (Rows.kvEmptySpec.pre6 enc Try.prog Try.f3 Rows.kvEmptyRow.domain false) (Rows.kvEmptySpec.post enc Try.prog Try.f3 false true false false) := by
  refine law_lift (C := Try.checked) (ts := [22, 4]) (tb := 4) (by kernel_rfl) started (by kernel_rfl) Try.func3
    (ChangeSpec.witness6 (enc := enc) (C := Try.checked) false ⟨#[], #[.slice none 0 0, .bool false], []⟩ 8 (by kernel_rfl) (by kernel_rfl) (by kernel_rfl) (by kernel_rfl))
    (by kernel_rfl) (by kernel_rfl) (by kernel_rfl) (by kernel_rfl) Try.underlying4 rfl (fun ds h => by match ds, h with | [_, _], _ => rfl) ?_
  intro W vs hl h
  match vs, hl with
  | [v0, v1], _ =>
    obtain ⟨key, hkey⟩ := arg_bytes Try.underlying22 Try.underlying5 (by kernel_rfl) (h 0 _ v0 rfl rfl)
    obtain ⟨del, rfl⟩ := arg_bool Try.underlying4 (h 1 _ v1 rfl rfl)
    exact walk _ key del W hkey

theorem over : Rows.kvEmptyRow.holds Try.pinned (OpenSpec.ofChange Rows.kvEmptySpec) :=
  OpenClaim.holds_of_wide 3 Try.f3 rfl rfl rfl rfl rfl rfl rfl ⟨rfl, rfl, rfl, rfl, rfl⟩ rfl rfl rfl rfl rfl (by kernel_rfl) Try.func3 (by kernel_rfl)
    (of_decide_eq_true (by kernel_rfl)) (by unfold Func.isWrapper; first | (rw [if_pos (by decide +kernel)]; kernel_rfl) | (rw [if_neg (by decide +kernel)]; exact ⟨rfl, rfl⟩))
    (fun os started H enc _ => lifted os started H enc)
end Go.Proofs.Ythjnebngdcdicaa.KvEmpty
namespace Go.Proofs.Ythjnebngdcdicaa
theorem kvEmpty_holds : Rows.KvEmptySaid := KvEmpty.over
#print axioms kvEmpty_holds
end Go.Proofs.Ythjnebngdcdicaa
