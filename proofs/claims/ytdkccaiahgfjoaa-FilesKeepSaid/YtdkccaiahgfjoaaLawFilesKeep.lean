/- 'FilesKeep' answers true at every input, and leaves what it was given. No condition. -/
import Derived.Test.YtdkccaiahgfjoaaFsKeepTop
import Derived.Test.YtdkccaiahgfjoaaInts
import Derived.Test.YtdkccaiahgfjoaaBits
import Derived.Test.YtdkccaiahgfjoaaLaw
import Derived.Test.YtdkccaiahgfjoaaRows
namespace Go.Proofs.Ytdkccaiahgfjoaa.FilesKeep
open Go Go.RowKit Go.Mun Go.Proofs Go.Maps

theorem i64_and63 (x : Int) : bits .and .i64 x 63 = x % 64 := i64_and_mask x 6 63 (by omega) rfl
theorem u8_of {i j : Nat} (h : i + j < 256) : (((UInt8.ofNat (i + j)).toNat : Nat) : Int) = (i : Int) + (j : Int) := by rw [UInt8.toNat_ofNat']; omega
set_option maxRecDepth 100000 in
set_option maxHeartbeats 8000000 in
theorem walk (vn vs : Value) (cut : Int) (vk : Value) (names : List Ky) (sizes : List Int) (keep : List Bool) (w : World) (hvn : Strs w vn names) (hvs : Ints w vs sizes) (hcut : (Lit.int .i64 cut).wf = true) (hvk : Bools w vk keep) :
    Calls Try.prog 4 #[vn, vs, .int .i64 cut, vk] w fun e w' => e = .returned (.bool true) ∧ Below w.heap.size w w' := by
  have CA := Lib.hid alive_any
  have hcw : -9223372036854775808 ≤ cut ∧ cut ≤ 9223372036854775807 := by
    unfold Lit.wf at hcut
    exact ⟨of_decide_eq_true (Bool.and_eq_true_iff.1 hcut).1, of_decide_eq_true (Bool.and_eq_true_iff.1 hcut).2⟩
  obtain ⟨A1, N, c1, rfl⟩ : ∃ A n c, vn = .slice A n c := by obtain ⟨A, n, c, e, _⟩ := hvn; exact ⟨A, n, c, e⟩
  obtain ⟨A2, S, c2, rfl⟩ : ∃ A n c, vs = .slice A n c := by obtain ⟨A, n, c, e, _⟩ := hvs; exact ⟨A, n, c, e⟩
  obtain ⟨A3, Q, c3, rfl⟩ : ∃ A n c, vk = .slice A n c := by obtain ⟨A, n, c, e, _⟩ := hvk; exact ⟨A, n, c, e⟩
  obtain ⟨n1, n2, n3⟩ := hvn.len
  obtain ⟨s1, s2, s3⟩ := hvs.len
  have hkq : keep.length = Q := by obtain ⟨_, _, _, e, h, _⟩ := hvk; injection e with _ e; rw [h, e]
  unfold maxLen at n3 s3
  by_cases d1 : 30 < N
  · have e1 : decide ((30 : Int) < (N : Int)) = true := decide_eq_true (by omega)
    go_enter Try.func4, Try.ntmps4
    go_wp2_with (first
      | (go_at_call 9; (with_reducible refine (CA.out _).mono ?_); rintro e w1 ⟨rfl, hb1⟩)
      | fail)
    go_ret
    exact ⟨rfl, hb1⟩
  have e2 : decide ((30 : Int) < (N : Int)) = false := decide_eq_false (by omega)
  by_cases d2 : S < N
  · have e1 : decide ((S : Int) < (N : Int)) = true := decide_eq_true (by omega)
    go_enter Try.func4, Try.ntmps4
    go_wp2_with (first
      | (go_at_call 9; (with_reducible refine (CA.out _).mono ?_); rintro e w1 ⟨rfl, hb1⟩)
      | fail)
    go_ret
    exact ⟨rfl, hb1⟩
  have e3 : decide ((S : Int) < (N : Int)) = false := decide_eq_false (by omega)
  by_cases d3 : 50 < Q
  · have e1 : decide ((50 : Int) < (Q : Int)) = true := decide_eq_true (by omega)
    go_enter Try.func4, Try.ntmps4
    go_wp2_with (first
      | (go_at_call 9; (with_reducible refine (CA.out _).mono ?_); rintro e w1 ⟨rfl, hb1⟩)
      | fail)
    go_ret
    exact ⟨rfl, hb1⟩
  have e4 : decide ((50 : Int) < (Q : Int)) = false := decide_eq_false (by omega)
  have hbT := bytesTyC
  have HN := Lib.hid hvn
  have HS := Lib.hid hvs
  have HK := Lib.hid hvk
  clear hvn hvs hvk hcut
  go_enter Try.func4, Try.ntmps4
  go_wp2_with (first
    | (go_at_call 9; (with_reducible refine (CA.out _).mono ?_); rintro e w1 ⟨rfl, hb1⟩; have N0 := Lib.hid (New_in (w0 := w) (w := w1) (o := fun _ => none) 0 (fun _ _ => rfl) hb1 (fun _ _ => rfl)))
    | (go_at_call 10; (with_reducible refine N0.out.mono ?_); rintro e w2 ⟨p, o2, rfl, h2, T2⟩; clear T2)
    | ((with_reducible refine gd_box ?_); refine wpList_box_agg rfl _ (.tmp 47) rfl rfl ?_; intro w3 hx3 hb3 hl3)
    | fail)
  obtain ⟨o3, r3, T3⟩ := RfIn.made (k := 1) h2.own h2.below h2.base rfl hb3 hx3
  have h3 := h2.turn r3.own T3 (by decide)
  obtain ⟨r, hr⟩ : ∃ r, r = w2.heap.size := ⟨_, rfl⟩
  simp only [← hr] at r3 ⊢
  clear T3 h2 hx3 hr
  go_loopw [12] (fun iv wr => ∃ (i : Nat) (M : FSs) (o : Own), i ≤ N ∧ iv = .int .i64 (i : Nat) ∧ Alive M ∧ Synced M ∧ M.now.length ≤ i ∧ FsIn 0 p M o (4 * i) (64 * i) w wr ∧ RfIn 1 r M o (4 * i) (64 * i) w wr) (fun iv _ => N - (RowKit.intOf iv).toNat)
  case atStart => exact ⟨0, newM, o3, Nat.zero_le _, rfl, ⟨rfl, rfl⟩, (fun p hp => by cases hp), Nat.le_refl _, h3, r3⟩
  case round =>
    obtain ⟨i, M, o, hi, rfl, hA, hY, hL, hF, hR⟩ := hrel
    by_cases hlt : i < N
    · have f0 : decide ((i : Int) < (N : Int)) = true := decide_eq_true (by omega)
      have i1 := Int.natCast_nonneg i
      have i2 : (i : Int) < (N : Int) := by omega
      have i3 : (i : Int) < (S : Int) := by omega
      obtain ⟨ad, nm, rfl, hnm, hc⟩ := (HN.out.ext hF.below).at_ (i := i) hlt
      by_cases hlong : 100 < nm.length
      · have f1 : decide ((100 : Int) < (nm.length : Int)) = true := decide_eq_true (by omega)
        go_wp2
        go_ret
        exact ⟨rfl, hF.below⟩
      · have f1 : decide ((100 : Int) < (nm.length : Int)) = false := decide_eq_false (by omega)
        obtain ⟨ad2, x, rfl, hx, hc2, _⟩ := (HS.out.ext hF.below).at_ (i := i) (by omega)
        obtain ⟨z, hz⟩ : ∃ z : Nat, x % 64 = z := ⟨(x % 64).toNat, by omega⟩
        have hzb : z ≤ 63 := by omega
        have ex : bits .and .i64 x 63 = (z : Int) := by rw [i64_and63, hz]
        have HA := Lib.hid hA
        have HY := Lib.hid hY
        have HF := Lib.hid hF
        have HR := Lib.hid hR
        have HL := Lib.hid hL
        have HNC := Lib.hid (fun (w' : World) (hb : Below w.heap.size w w') => show w'.cell? (ad.add i) = some (.string ⟨nm.toArray⟩) from by obtain ⟨ad', x', e, h1, h2⟩ := (HN.out.ext hb).at_ (i := i) hlt; injection e with e; subst e; rw [hnm] at h1; injection h1 with h1; subst h1; exact h2)
        clear hz hA hY hL hF hR hx hnm
        go_wp2_with (first
          | ((with_reducible refine gd_make ?_); refine wpList_make_bytes rfl (.tmp 65) (.tmp 65) _ rfl wr.heap.size hbT (n := z) (by rfl) (by rfl) (by omega) (Nat.le_refl _) ?_; intro vb wb hob hbb)
          | fail)
        obtain ⟨Ab, cb, rfl⟩ := row_slC hob
        go_loopw [14] (fun jv wq => ∃ (j : Nat) (l : List UInt8), j ≤ z ∧ jv = .int .i64 (j : Nat) ∧ wq.ownsRow wr.heap.size 5 1 (.slice Ab z cb) z (bv l) ∧ Below wr.heap.size wr wq) (fun jv _ => z - (RowKit.intOf jv).toNat)
        case atStart => exact ⟨0, _, Nat.zero_le _, rfl, hob, hbb⟩
        case round =>
          obtain ⟨j, l, hj, rfl, ho, hb⟩ := hrel
          have hll : l.length = z := by have := ho.1; rw [bv_length] at this; omega
          by_cases hjz : j < z
          · have f2 : decide ((j : Int) < (z : Int)) = true := decide_eq_true (by omega)
            have i4 := Int.natCast_nonneg j
            have i5 : (j : Int) < (z : Int) := by omega
            obtain ⟨g, cur, eA, hbg, hxg, hjc, hset⟩ := own_byte ho hjz
            subst eA
            have HSET := Lib.hid hset
            have HBB := Lib.hid hb
            have HBG := Lib.hid hbg
            clear hset hb hbg ho hbb hob
            go_wp2_with (first
              | ((with_reducible refine gd_store ?_); refine wpList_store_cell rfl 5 (.tmp 79) (.tmp 78) rfl (i := j) (v := .int .u8 ((i : Int) + (j : Int))) hxg hjc (by kernel_rfl) rfl rfl rfl ?_; intro w5 hx5 hg5)
              | fail)
            have ho5 := HSET.out w5 (UInt8.ofNat (i + j)) (by rw [u8_of (by omega)]; exact hx5)
            have hb5 := HBB.out.grown hg5 HBB.out.size (fun k hk => by injection hk with hk; have := HBG.out; omega)
            go_roundw
            case rel => first | exact ⟨j + 1, _, by omega, by go_num, ho5, hb5⟩ | ((repeat apply Exists.intro); exact ⟨⟨j + 1, _, by omega, by go_num, ho5, hb5⟩, rfl⟩)
            case measure => simp [RowKit.intOf]; omega
          · obtain rfl : j = z := by omega
            have f2 : decide ((j : Int) < (j : Int)) = false := decide_eq_false (by omega)
            have hFq := HF.out.ext hb
            have hRq := HR.out.ext hb
            have LN := Lone.own HF.out.own (Nat.le_refl _) ho
            have q1 := HNC.out _ hFq.below
            have hop1 := Lib.hid (show M.op ≠ 0 by rw [HA.out.op]; decide)
            have hop2 := Lib.hid (show (appM M nm l).op ≠ 0 by rw [(HA.out.app nm l).op]; decide)
            have HLL := Lib.hid hll
            have HNL := Lib.hid (show nm.length ≤ 1000000 by omega)
            clear hbb hob ho hb
            go_wp2_with (first
              | (go_at_call 11; (with_reducible refine (App_in hFq nm HNL.out _ l LN.bytes (LN.free 0) (by omega) (by omega) (by omega)).mono ?_); rintro e w4 ⟨rfl, o4, h4, T4⟩; have R4 := hRq.turn h4.own T4 (by decide); have LN4 := LN.turn T4; have q2 := HNC.out w4 h4.below; clear hFq hRq LN T4 q1)
              | (go_at_call 12; (with_reducible refine (RfApp_in R4 hop1.out nm _ l LN4.bytes (LN4.free 1) (by omega) (by omega) (by omega)).mono ?_); rintro e w5 ⟨rfl, o5, R5, T5⟩; have h5 := h4.turn R5.own T5 (by decide); have q3 := HNC.out w5 h5.below; clear h4 R4 LN4 T5 q2)
              | (go_at_call 13; (with_reducible refine (Sync_in h5 nm HNL.out (by omega) (by omega)).mono ?_); rintro e w6 ⟨rfl, o6, h6, T6⟩; have R6 := R5.turn h6.own T6 (by decide); have q4 := HNC.out w6 h6.below; clear h5 R5 T6 q3)
              | (go_at_call 14; (with_reducible refine (RfSync_in R6 hop2.out nm (by omega)).mono ?_); rintro e w7 ⟨rfl, o7, R7, T7⟩; have h7 := h6.turn R7.own T7 (by decide); clear h6 R6 T7)
              | fail)
            have e2 := Synced.step HY.out HA.out nm l
            have hfin := And.intro (show (syncM (appM M nm l) nm).now.length ≤ i + 1 by have := e2.2; have := HL.out; omega) (And.intro (h7.more (show _ ≤ 4 * (i + 1) by omega) (show _ ≤ 64 * (i + 1) by omega)) (R7.more (show _ ≤ 4 * (i + 1) by omega) (show _ ≤ 64 * (i + 1) by omega)))
            go_roundw
            case rel => first | exact ⟨i + 1, _, o7, by omega, by go_num, (HA.out.app nm l).sync nm, e2.1, hfin.1, hfin.2.1, hfin.2.2⟩ | ((repeat apply Exists.intro); exact ⟨⟨i + 1, _, o7, by omega, by go_num, (HA.out.app nm l).sync nm, e2.1, hfin.1, hfin.2.1, hfin.2.2⟩, rfl⟩)
            case measure => simp [RowKit.intOf]; omega
    · obtain rfl : i = N := by omega
      have f0 : decide ((i : Int) < (i : Int)) = false := decide_eq_false (by omega)
      obtain ⟨ks, kn⟩ := kept2_start hY hA
      have hop1 := Lib.hid (show M.op ≠ 0 by rw [hA.op]; decide)
      have hnl : (dirM M).now.length ≤ 30 := by rw [kn]; omega
      have hnm : namesM (dirM M) = (dirM M).now.map (·.1) := by unfold namesM; rw [ks.alive.dead]; rfl
      obtain ⟨M2, hM2⟩ : ∃ x, x = dirM M := ⟨_, rfl⟩
      rw [← hM2] at ks hnl hnm
      have KS := Lib.hid ks
      have HM2 := Lib.hid hM2
      obtain ⟨W, hW⟩ : ∃ x, x = M2.now.length := ⟨_, rfl⟩
      have HW := Lib.hid hW
      have HNM := Lib.hid hnm
      have hWb : W ≤ 30 := by omega
      clear hA hY hL ks kn hM2 hnm hW hnl
      go_wp2_with (first
        | (go_at_call 15; (with_reducible refine (Dir_in hF (by omega) (by omega)).mono ?_); rintro e w4 ⟨rfl, o4, h4, T4⟩; rw [← HM2.out] at h4; have R4 := hR.turn h4.own T4 (by decide); clear hF hR T4)
        | (go_at_call 16; (with_reducible refine (RfDir_in R4 hop1.out (by omega)).mono ?_); rintro e w5 ⟨rfl, o5, R5, T5⟩; rw [← HM2.out] at R5; have h5 := h4.turn R5.own T5 (by decide); clear h4 R4 T5)
        | (go_at_call 17; (with_reducible refine (RfNames_in R5 (by omega)).mono ?_); rintro e w6 ⟨v15, rfl, ho15, hb15, R6⟩; have h6 := h5.ext hb15; have was := LoneR.new R5.own (Nat.le_refl _) ho15; clear h5 ho15 hb15)
        | fail)
      have hlen : (namesM M2).length = W := by rw [HNM.out, List.length_map, HW.out]
      rw [hlen] at was
      obtain ⟨A15, c15, rfl⟩ := row_slC was.row
      generalize w5.heap.size = B15 at was
      have HLEN := Lib.hid hlen
      have hTS := strsTy
      obtain ⟨BS, hBS⟩ : ∃ x, x = M2.now.map fun q => strV (M2.fs q.2).b := ⟨_, rfl⟩
      have HBS := Lib.hid hBS
      clear hlen hBS
      go_loopw [17, 16] (fun jv bv wr => ∃ (j : Nat) (F : FSs) (o : Own), j ≤ W ∧ jv = .int .i64 (j : Nat) ∧ Kept2 M2 F ∧ FsIn 0 p F o (4 * i + 2 + 2 * j) (64 * i + 4 * j) w wr ∧ RfIn 1 r M2 o (4 * i + 2) (64 * i) w wr ∧ LoneR o wr B15 9 1 (.slice A15 W c15) W ((namesM M2).map strV) ∧ RowK 2 o wr 0 9 1 bv j (BS.take j)) (fun jv _ _ => W - (RowKit.intOf jv).toNat)
      case atStart => exact ⟨0, M2, o5, Nat.zero_le _, rfl, KS.out, h6, R6, was, RowK.nil _ _ _ _ _ _⟩
      case round =>
        clear h6 R6 was
        obtain ⟨j, F, o, hj, rfl, hK, hF, hR, was, bt⟩ := hrel
        by_cases hjW : j < W
        · have f1 : decide ((j : Int) < (W : Int)) = true := decide_eq_true (by omega)
          have i1 := Int.natCast_nonneg j
          have i2 : (j : Int) < (W : Int) := by omega
          obtain ⟨q, hq⟩ : ∃ q, M2.now[j]? = some q := ⟨_, List.getElem?_eq_getElem (by rw [← HW.out]; exact hjW)⟩
          have hfine := hR.fine
          have hmem := List.mem_of_getElem? hq
          have hgq : getP M2.now q.1 = some q.2 := getP_at hfine.rnow hmem
          have hnq := hfine.names q hmem
          have HQ := Lib.hid hq
          have HGQ := Lib.hid hgq
          have HNQ := Lib.hid hnq
          have HKK := Lib.hid hK
          have IR := Lib.hid (isB_some KS.out.alive hgq)
          have ER := Lib.hid (show readM M2 q.1 = (M2.fs q.2).b by unfold readM; rw [if_pos IR.out, hgq])
          have HCL := Lib.hid (fun (w' : World) (o' : Own) (h : LoneR o' w' B15 9 1 (.slice A15 W c15) W ((namesM M2).map strV)) => show ∃ ad, A15 = some ad ∧ w'.cell? (ad.add j) = some (.string ⟨q.1.toArray⟩) from by
            obtain ⟨ad, x, e, h1, h2⟩ := (Strs.own (l := namesM M2) HLEN.out h.row).at_ (i := j) hjW
            rw [HNM.out, List.getElem?_map, HQ.out] at h1
            injection h1 with h1
            subst h1
            exact ⟨ad, e, h2⟩)
          obtain ⟨ad, rfl, hc⟩ := HCL.out _ _ was
          have HC2 := Lib.hid (fun (w' : World) (o' : Own) (h : LoneR o' w' B15 9 1 (.slice (some ad) W c15) W ((namesM M2).map strV)) => show w'.cell? (ad.add j) = some (.string ⟨q.1.toArray⟩) from by
            obtain ⟨ad', e, h2⟩ := HCL.out _ _ h
            injection e with e
            subst e
            exact h2)
          have hql : q.1.length ≤ 1000000 := by have := hnq.2; omega
          have HQL := Lib.hid hql
          clear hq hgq hnq hfine hmem hK hql
          go_wp2_with (first
            | (go_at_call 18; (with_reducible refine (RfRead_in hR q.1 (by omega)).mono ?_); rintro e w7 ⟨vr, he, hor, hbr, R7⟩; rw [IR.out] at he; subst he; rw [ER.out] at hor; obtain ⟨Ar, cr, rfl⟩ := row_slC hor; have qs := run_str (P := Try.prog) (src := 26) (dst := 9) (Bytes.own hor) u8sTy u8Ty Try.underlying9; have h7 := hF.ext hbr; have was7 := was.ext hbr; have bt7 := bt.ext hbr; clear hF hR was bt hbr hor)
            | ((with_reducible refine gd_rowC ?_); refine wpList_row_val (v := .string ⟨(M2.fs q.2).b.toArray⟩) rfl (.tmp 129) rfl hTS (by decide) rfl rfl ?_; intro w8 hx8 hb8 hl8; have h8 := h7.ext hb8; have R8 := R7.ext hb8; have was8 := was7.ext hb8; have bt8 := bt7.ext hb8; clear h7 R7 was7 bt7)
            | (at_builtin; refine wpList_append_rd _ rfl (.tmp 127) (.tmp 130) _ rfl 0 _ _ 1 16 hTS _ _ _ rfl bt8.row (some ⟨w7.heap.size, 0, none⟩) 1 1 [.string ⟨(M2.fs q.2).b.toArray⟩] rfl rfl hx8.rd (by intro u hu; rw [List.mem_singleton.1 hu]; rfl) (by unfold maxLen; omega) (by omega) (Nat.zero_le _) ?_; intro v9 w9 ho9 hg9 hat9; obtain ⟨o9, bt9, T9, own9⟩ := bt8.grow h8.own ho9 hg9 hat9; have h9 := h8.turn own9 T9 (by decide); have R9 := R8.turn own9 T9 (by decide); have was9 := was8.turn T9; have q9 := HC2.out _ _ was9; clear h8 R8 was8 bt8 ho9 hg9 hat9 T9 own9)
            | ((with_reducible refine gd_rowC ?_); refine wpList_row_four rfl (.const (.int .u8 109)) (.const (.int .u8 111)) (.const (.int .u8 114)) (.const (.int .u8 101)) rfl hbT (v := .int .u8 109) (u := .int .u8 111) (s := .int .u8 114) (p := .int .u8 101) rfl rfl rfl rfl rfl rfl rfl rfl ?_; intro w10 hx10 hb10 hl10)
            | ((with_reducible refine gd_convert ?_); refine wpList_lit rfl (.tmp 137) rfl u8sTy u8Ty rfl hx10 (l := [109, 111, 114, 101]) rfl rfl (Nat.le_refl _) (by decide) ?_; intro w11 hg11 hs11 B11; have hb11 := below_blk hb10 hb10.size hg11 (Nat.le_refl _); have h11 := h9.ext hb11; have R11 := R9.ext hb11; have was11 := was9.ext hb11; have bt11 := bt9.ext hb11; have F11 := Lib.hid (Free.lit (k := 0) (n := 4) (c := 4) h9.own); clear h9 R9 was9 bt9)
            | (go_at_call 11; (with_reducible refine (App_in h11 q.1 HQL.out _ [109, 111, 114, 101] B11 F11.out (by decide) (by omega) (by omega)).mono ?_); rintro e w12 ⟨rfl, o12, h12, T12⟩; have R12 := R11.turn h12.own T12 (by decide); have was12 := was11.turn T12; have bt12 := bt11.turn T12 (by decide); clear h11 R11 was11 bt11 T12)
            | fail)
          have eBS : BS.take (j + 1) = BS.take j ++ [.string ⟨(M2.fs q.2).b.toArray⟩] := by
            have h1 : BS[j]? = some (strV (M2.fs q.2).b) := by rw [HBS.out, List.getElem?_map, HQ.out]; rfl
            obtain ⟨h2, h3⟩ := List.getElem?_eq_some_iff.1 h1
            rw [List.take_succ_eq_append_getElem h2, h3]
            rfl
          rw [← eBS] at bt12
          have hfin := And.intro (HKK.out.app HGQ.out HNQ.out [109, 111, 114, 101]) (And.intro (h12.more (show _ ≤ 4 * i + 2 + 2 * (j + 1) by omega) (show _ ≤ 64 * i + 4 * (j + 1) by simp only [List.length_cons, List.length_nil]; omega)) (And.intro R12 (And.intro was12 bt12)))
          go_roundw
          case rel => first | exact ⟨j + 1, _, o12, by omega, by go_num, hfin⟩ | ((repeat apply Exists.intro); exact ⟨⟨j + 1, _, o12, by omega, by go_num, hfin⟩, rfl⟩)
          case measure => simp [RowKit.intOf]; omega
        · obtain rfl : j = W := by omega
          have f1 : decide ((j : Int) < (j : Int)) = false := decide_eq_false (by omega)
          have hM2r := hR.fine.rnow
          have HNQ4 := Lib.hid (fun (q : Ky × Nat) (hm : q ∈ M2.now) => (show q.1.length ≤ 100 from (hR.fine.names q hm).2))
          have hG := hK.more hF.fine (by rw [← HW.out]; omega) [122]
          have HG3 := Lib.hid hG
          have HRI := Lib.hid hM2r
          have gno := Lib.hid (show goesB (planM (appM F cNew [122]) 0 cut keep) (!(planM (appM F cNew [122]) 0 cut keep).dead) = false by unfold goesB; rw [failsB_yes rfl]; simp)
          have edc := Lib.hid (show dirM (planM (appM F cNew [122]) 0 cut keep) = crashM (planM (appM F cNew [122]) 0 cut keep) from dir_off hG.alive.dead rfl)
          obtain ⟨A16, c16, rfl⟩ := row_slC bt.row
          have HQ3 := Lib.hid (show keep.length ≤ 140737488355328 by omega)
          have HCW := Lib.hid hcw
          clear hR hK hG hM2r
          go_wp2_with (first
            | ((with_reducible refine gd_rowC ?_); refine wpList_row_val (v := .int .u8 122) rfl (.const (.int .u8 122)) rfl hbT (by decide) rfl rfl ?_; intro w7 hx7 hb7 hl7)
            | ((with_reducible refine gd_convert ?_); refine wpList_lit rfl (.tmp 141) rfl u8sTy u8Ty rfl hx7 (l := [122]) rfl rfl (Nat.le_refl _) (by decide) ?_; intro w8 hg8 hs8 B8; have hb8 := below_blk hb7 hb7.size hg8 (Nat.le_refl _); have h8 := hF.ext hb8; have was8 := was.ext hb8; have bt8 := bt.ext hb8; have F8 := Lib.hid (Free.lit (k := 0) (n := 1) (c := 1) hF.own); clear hF was bt)
            | (go_at_call 11; (with_reducible refine (App_in h8 cNew (by decide) _ [122] B8 F8.out (by decide) (by omega) (by omega)).mono ?_); rintro e w9 ⟨rfl, o9, h9, T9⟩; have HFG := Lib.hid h9.fine; have was9 := was8.turn T9; have bt9 := bt8.turn T9 (by decide); clear h8 was8 bt8 T9)
            | (go_at_call 19; (with_reducible refine (Plan_in h9 0 cut _ keep (by decide) HCW.out (show Bools w9 _ keep from (HK.out.ext h9.below)) (Free.argB h9.base HK.out) HQ3.out).mono ?_); rintro e w10 ⟨rfl, o10, h10, T10⟩; have was10 := was9.turn T10; have bt10 := bt9.turn T10 (by decide); clear h9 was9 bt9 T10)
            | (go_at_call 15; (with_reducible refine (Dir_in h10 (by omega) (by simp only [List.length_cons, List.length_nil]; omega)).mono ?_); rintro e w11 ⟨he, o11, h11, T11⟩; rw [gno.out] at he; subst he; rw [edc.out] at h11; have was11 := was10.turn T11; have bt11 := bt10.turn T11 (by decide); clear h10 was10 bt10 T11)
            | (go_at_call 20; (with_reducible refine (Start_in h11).mono ?_); rintro e w12 ⟨rfl, h12, T12⟩; have was12 := was11.turn T12; have bt12 := bt11.turn T12 (by decide); clear h11 was11 bt11 T12)
            | fail)
          have CR := Lib.hid (HG3.out.crash HFG.out HRI.out cut keep)
          obtain ⟨C, hC⟩ : ∃ x, x = startM (crashM (planM (appM F cNew [122]) 0 cut keep)) := ⟨_, rfl⟩
          have hnC : namesM C = C.now.map (·.1) := by rw [hC]; rfl
          rw [← hC] at CR h12
          have h13 : FsIn 0 p C o11 1000 10000 w w12 := h12.more (by omega) (by simp only [List.length_cons, List.length_nil]; omega)
          have HNN := Lib.hid hnC
          clear hC h12 gno edc HG3 hnC HCW HFG
          go_loopw [21] (fun tv wr => ∃ t : Nat, t ≤ j ∧ tv = .int .i64 (t : Nat) ∧ FsIn 0 p C o11 1000 10000 w wr ∧ LoneR o11 wr B15 9 1 (.slice A15 j c15) j ((namesM M2).map strV) ∧ RowK 2 o11 wr 0 9 1 (.slice A16 j c16) j (BS.take j)) (fun tv _ => j - (RowKit.intOf tv).toNat)
          case atStart => exact ⟨0, Nat.zero_le _, rfl, h13, was12, bt12⟩
          case round =>
            clear h13 was12 bt12
            obtain ⟨t, ht, rfl, hF, was, bt⟩ := hrel
            by_cases htj : t < j
            · have g1 : decide ((t : Int) < (j : Int)) = true := decide_eq_true (by omega)
              have i1 := Int.natCast_nonneg t
              have i2 : (t : Int) < (j : Int) := by omega
              obtain ⟨q, hq⟩ : ∃ q, M2.now[t]? = some q := ⟨_, List.getElem?_eq_getElem (by rw [← HW.out]; exact htj)⟩
              have hmem := List.mem_of_getElem? hq
              have hgq : getP M2.now q.1 = some q.2 := getP_at HRI.out hmem
              obtain ⟨hI, hpre⟩ := CR.out.1 q hmem
              obtain ⟨ad, x, rfl, h1, hc⟩ := (Strs.own (l := namesM M2) HLEN.out was.row).at_ (i := t) htj
              rw [HNM.out, List.getElem?_map, hq] at h1
              injection h1 with h1
              subst h1
              obtain ⟨cb, hcb⟩ : ∃ x, x = (M2.fs q.2).b := ⟨_, rfl⟩
              have hB1 : (BS.take j)[t]? = some (.string ⟨cb.toArray⟩) := by
                rw [List.getElem?_take, if_pos htj, HBS.out, List.getElem?_map, hq, hcb]; rfl
              obtain ⟨ad16, e16, hc16⟩ := (Rd.own bt.row) t _ hB1
              subst e16
              rw [← hcb] at hpre
              obtain ⟨rd, hrd⟩ : ∃ x, x = readM C q.1 := ⟨_, rfl⟩
              rw [← hrd] at hpre
              have HRD := Lib.hid hrd
              have HIB := Lib.hid hI
              have HPR := Lib.hid hpre
              have hle := hpre.length_le
              have HQL := Lib.hid (show q.1.length ≤ 1000000 by have := HNQ4.out q hmem; omega)
              have f3 : decide ((rd.length : Int) < (cb.length : Int)) = false := decide_eq_false (by omega)
              have sn : ((⟨cb.toArray⟩ : ByteArray) != ⟨cb.toArray⟩) = false := by rw [str_ne]; simp
              clear hq hmem hgq hI hcb hB1 hrd hpre
              go_upto_region 38 with (first
                | (go_at_call 21; (with_reducible refine (Read_in hF q.1 HQL.out (by decide)).mono ?_); rintro e w13 ⟨v, he, ho, hb, h14⟩; rw [HIB.out] at he; subst he; rw [← HRD.out] at ho)
                | fail)
              obtain ⟨Av, cv, rfl⟩ := row_slC ho
              have hcap := row_cap ho
              have hc2 := cell_ext hb hc16
              obtain ⟨A4, r1, r2⟩ := cut_h hbT Av rd.length cv (kh := .i64) (hi' := (cb.length : Int)) (hi := cb.length) rfl (by omega)
              have HV3 := r2 _ _ (Bytes.own ho) hle
              rw [show rd.take cb.length = cb from (List.prefix_iff_eq_take.1 HPR.out).symm] at HV3
              have q3 := fun m => run_str (P := Try.prog) (src := 26) (dst := 9) (Bytes_drewN HV3 m) u8sTy u8Ty Try.underlying9
              have was2 := was.ext hb
              have bt2 := bt.ext hb
              clear HV3 r2 ho hc hc16 was bt hF hb
              go_quiet (fail)
              have hbd := below_drewN (Below.refl w13.heap.size w13) nq
              have h15 := h14.ext hbd
              have was3 := was2.ext hbd
              have bt3 := bt2.ext hbd
              clear h14 was2 bt2 hbd hc2
              generalize w13.drewN nq = w14 at h15 was3 bt3 ⊢
              go_wp2
              go_roundw
              case rel => first | exact ⟨t + 1, by omega, by go_num, h15, was3, bt3⟩ | ((repeat apply Exists.intro); exact ⟨⟨t + 1, by omega, by go_num, h15, was3, bt3⟩, rfl⟩)
              case measure => simp [RowKit.intOf]; omega
            · obtain rfl : t = j := by omega
              have g1 : decide ((t : Int) < (t : Int)) = false := decide_eq_false (by omega)
              have hcl := CR.out.2
              rw [← HW.out] at hcl
              have hnow : C.now.length ≤ 100000 := by
                have h1 : (namesM C).length = C.now.length := by rw [HNN.out, List.length_map]
                omega
              have b0 : ((t : Int) == (t : Int)) = true := by simp
              have b1 : ((t : Int) + 1 == (t : Int)) = false := by rw [beq_eq_false_iff_ne]; omega
              have b2 : ((t : Int) + 1 == (t : Int) + 1) = true := by simp
              rcases hcl with hcl | hcl
              · have HCLN := Lib.hid hcl
                clear hcl
                go_wp2_with (first
                  | (go_at_call 22; (with_reducible refine (Names_in hF hnow).mono ?_); rintro e w15 ⟨v, rfl, ho, hb, h16⟩; rw [HCLN.out] at ho; obtain ⟨Av, cv, rfl⟩ := row_slC ho)
                  | fail)
                go_ret
                exact ⟨by first | rfl | simp, h16.below⟩
              · have HCLN := Lib.hid hcl
                clear hcl
                go_wp2_with (first
                  | (go_at_call 22; (with_reducible refine (Names_in hF hnow).mono ?_); rintro e w15 ⟨v, rfl, ho, hb, h16⟩; rw [HCLN.out] at ho; obtain ⟨Av, cv, rfl⟩ := row_slC ho)
                  | fail)
                go_ret
                exact ⟨by first | rfl | simp, h16.below⟩
open Go.ChangeShapes Go.WideShapes Go.ChangeAt

set_option maxRecDepth 100000 in
theorem lifted (os : Os) (started : os.Started) (H : Type) (enc : TypeId × Value → H) :
    ReturnsInHanded {} Try.checked os 4 .any (Rows.filesKeepSpec.pre6 enc Try.prog Try.f4 Rows.filesKeepRow.domain false) (Rows.filesKeepSpec.post enc Try.prog Try.f4 false true false false) := by
  refine law_lift (C := Try.checked) (ts := [28, 29, 3, 30]) (tb := 4) (by kernel_rfl) started (by kernel_rfl) Try.func4
    (ChangeSpec.witness6 (enc := enc) (C := Try.checked) false ⟨#[], #[.slice none 0 0, .slice none 0 0, .int .i64 0, .slice none 0 0], []⟩ 8 (by kernel_rfl) (by kernel_rfl) (by kernel_rfl) (by kernel_rfl))
    (by kernel_rfl) (by kernel_rfl) (by kernel_rfl) (by kernel_rfl) Try.underlying4 rfl (fun ds h => by match ds, h with | [_, _, _, _], _ => rfl) ?_
  intro W vs hl h
  match vs, hl with
  | [v0, v1, v2, v3], _ =>
    have hns := h 0 _ v0 rfl rfl
    have hss := h 1 _ v1 rfl rfl
    obtain ⟨cut, rfl, hcut⟩ := arg_int Try.underlying3 (h 2 _ v2 rfl rfl)
    have hkk := h 3 _ v3 rfl rfl
    obtain ⟨l1, h1⟩ := arg_slice Try.underlying28 (by kernel_rfl) (opens_str enc 0 (fun _ => true) true Try.underlying9) hns
    obtain ⟨l2, h2⟩ := arg_slice Try.underlying29 (by kernel_rfl) (opens_int enc 0 (fun _ => true) true Try.underlying3) hss
    obtain ⟨l3, h3⟩ := arg_slice Try.underlying30 (by kernel_rfl) (opens_bool enc 0 (fun _ => true) true Try.underlying4) hkk
    exact walk _ _ cut _ l1 l2 l3 W (Strs.of_slice h1) (Ints.of_slice h2) hcut (Bools.of_slice h3)

theorem over : Rows.filesKeepRow.holds Try.pinned (OpenSpec.ofChange Rows.filesKeepSpec) :=
  OpenClaim.holds_of_wide 4 Try.f4 rfl rfl rfl rfl rfl rfl rfl ⟨rfl, rfl, rfl, rfl, rfl⟩ rfl rfl rfl rfl rfl (by kernel_rfl) Try.func4 (by kernel_rfl)
    (of_decide_eq_true (by kernel_rfl)) (by unfold Func.isWrapper; first | (rw [if_pos (by decide +kernel)]; kernel_rfl) | (rw [if_neg (by decide +kernel)]; exact ⟨rfl, rfl⟩))
    (fun os started H enc _ => lifted os started H enc)
end Go.Proofs.Ytdkccaiahgfjoaa.FilesKeep
namespace Go.Proofs.Ytdkccaiahgfjoaa
theorem filesKeep_holds : Rows.FilesKeepSaid := FilesKeep.over
#print axioms filesKeep_holds
end Go.Proofs.Ytdkccaiahgfjoaa
